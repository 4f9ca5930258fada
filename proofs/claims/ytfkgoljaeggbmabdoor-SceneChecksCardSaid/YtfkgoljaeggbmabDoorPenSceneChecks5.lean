/- A part of the proof that the law SceneChecks is true of every input: models of the functions that the law reaches, and what holds of them. -/
import Derived.Test.YtfkgoljaeggbmabDoorRows
import Derived.KernelRfl
import Derived.WalkKit
import Derived.LaidEql
import Derived.Stop.Asserts
import Derived.RowKitTokens
import Derived.Test.YtfkgoljaeggbmabDoorChecked
import Derived.Test.YtfkgoljaeggbmabDoorPenKit0
import Derived.Test.YtfkgoljaeggbmabDoorPenKit1
import Derived.Test.YtfkgoljaeggbmabDoorPenKit2
import Derived.Test.YtfkgoljaeggbmabDoorPenSceneChecks3
import Derived.Test.YtfkgoljaeggbmabDoorPenKit4
namespace Go.Proofs.Pen
open Go Go.Proofs Go.ChangeShapes Go.WideShapes Go.RowKit Go.Proofs.YtfkgoljaeggbmabDoor

/-- What this program's one laid variable reads as. -/
def doorL : List (String × DataW Unit) := [("errors.errorType", .iface "internal/reflectlite.rtype" (.agg [.ptr (.lit (.string [101, 114, 114, 111, 114]))]))]

theorem door_glob : ∀ W, laidMetH Tryd.prog doorL W → ∀ a u, globOf Tryd.prog a = some u → W.cell? a = some u := fun _ h =>
  glob_laid (n := 215) (g := 0) (rt := 165) (ty := 25) (by kernel_rfl) (by kernel_rfl) (by kernel_rfl) (by kernel_rfl) h

theorem door_globOf : globOf Tryd.prog ⟨0, 0, none⟩ = some (.iface 165 (.agg #[.pointer (some ⟨1, 25, none⟩)])) := by kernel_rfl

/-- A world in which it is laid. -/
noncomputable def doorWorld (os : Os) : World :=
  let w0 := World.holding Tryd.prog os ⟨#[], #[], []⟩
  { w0 with heap := w0.heap.modify 0 fun
      | .cells _ t frozen => .cells #[.iface 165 (.agg #[.pointer (some ⟨1, 25, none⟩)])] t frozen
      | o => o }
theorem doorWorld_met (os : Os) (args : Array Value) : laidMetH Tryd.prog doorL ((doorWorld os).forCall (fun _ _ => 0) ⟨#[], args, []⟩).memory :=
  laidMetH_of_parts (laidMet_nil _ _) (by kernel_rfl)

theorem faultPlain_witness (os : Os) (H : Type) (enc : TypeId × Value → H) : ∃ (w : World) (tape : Tape) (i : Input), w.os = os ∧ (w.forCall tape i).Shaped Tryd.prog ∧ i.vars = [] ∧ Input.okWide Tryd.prog (w.forCall tape i) .any w.heap.size 5 i ∧
      ((Rows.faultPlainSpec.pre enc Tryd.prog Tryd.f5 Rows.faultPlainRow.domain false (w.forCall tape i).memory i.args ∧ laidMetH Tryd.prog doorL (w.forCall tape i).memory) ∧ sizedMet enc Tryd.prog Tryd.f5 (OpenSpec.ofChange Rows.faultPlainSpec) false (w.forCall tape i).memory i.args) ∧ ({} : Assume).holds Tryd.prog (lone (Frame.enter Tryd.prog 5 i.args .normal) [] (w.forCall tape i)) :=
  ChangeSpec.witness_at (enc := enc) (C := Tryd.checked) (os := os) (X := fun w _ => laidMetH Tryd.prog doorL w) false (doorWorld os) #[.int .i64 0, .int .i64 0, .int .i64 0] 8 rfl (by kernel_rfl) (by kernel_rfl) (by kernel_rfl) (by kernel_rfl) (by kernel_rfl) (doorWorld_met os _)
end Go.Proofs.Pen

namespace Go.Proofs.Pen.As
open Go Go.Proofs Go.RowKit Go.Extern.Stop Go.Stop Go.Extern Go.Proofs.YtfkgoljaeggbmabDoor

/-! errors.As at the targets *Fault (82) and *Errno (83), by its contracts (after the worked ToyasAs): 43: Fault, 23: Errno, 25: error, 165: reflectlite's rtype. -/
theorem as_nil (t : Value) (w : World) : Calls Tryd.prog 35 #[.nilIface, t] w fun e w' => e = .returned (.bool false) ∧ w' = w := by
  go_enter Tryd.func35, Tryd.ntmps35
  go_wp2
  go_ret
  exact ⟨rfl, rfl⟩

abbrev vl (T : Nat) (a : Addr) (f : Int) : Value := .agg #[.pointer (some ⟨1, T, none⟩), .pointer (some a), .int .u64 f]
abbrev ty (T : Nat) : Value := .iface 165 (.agg #[.pointer (some ⟨1, T, none⟩)])

theorem valueOf82 (t : Addr) (w : World) : (ReflectliteValue.unpack (.iface 82 (.pointer (some t)))).run Tryd.prog w
    = .ok (vl 82 ⟨w.heap.size, 0, none⟩ 150) (w.alloc (.cells #[.pointer (some t)] 82)) := by kernel_rfl
theorem valueOf83 (t : Addr) (w : World) : (ReflectliteValue.unpack (.iface 83 (.pointer (some t)))).run Tryd.prog w
    = .ok (vl 83 ⟨w.heap.size, 0, none⟩ 150) (w.alloc (.cells #[.pointer (some t)] 83)) := by kernel_rfl
theorem type82 (a : Addr) (w : World) : (ReflectliteValue.methodAny (ReflectliteValue.valueError "reflectlite.Value.Type" 0) (fun t _ _ _ => ReflectliteType.toType t) #[vl 82 a 150]).run Tryd.prog w = .ok (ty 82) w := by kernel_rfl
theorem type83 (a : Addr) (w : World) : (ReflectliteValue.methodAny (ReflectliteValue.valueError "reflectlite.Value.Type" 0) (fun t _ _ _ => ReflectliteType.toType t) #[vl 83 a 150]).run Tryd.prog w = .ok (ty 83) w := by kernel_rfl
theorem methodKind (h : Value) (w : World) : (Go.method 315 165 (.agg #[h]) "Kind").run Tryd.prog w = .ok (127, h) w := by kernel_rfl
theorem methodElem (h : Value) (w : World) : (Go.method 315 165 (.agg #[h]) "Elem").run Tryd.prog w = .ok (136, .agg #[h]) w := by kernel_rfl
theorem methodImplements (h : Value) (w : World) : (Go.method 315 165 (.agg #[h]) "Implements").run Tryd.prog w = .ok (137, .agg #[h]) w := by kernel_rfl
theorem methodAssignableTo (h : Value) (w : World) : (Go.method 315 165 (.agg #[h]) "AssignableTo").run Tryd.prog w = .ok (134, .agg #[h]) w := by kernel_rfl
theorem kind82 (w : World) : ((ReflectliteType.abiMethod fun t => (fun a : Nat => Value.int IntKind.u8 (a : Int)) <$> Rtype.kind t) #[.pointer (some ⟨1, 82, none⟩)]).run Tryd.prog w = .ok (.int .u8 22) w := by kernel_rfl
theorem kind83 (w : World) : ((ReflectliteType.abiMethod fun t => (fun a : Nat => Value.int IntKind.u8 (a : Int)) <$> Rtype.kind t) #[.pointer (some ⟨1, 83, none⟩)]).run Tryd.prog w = .ok (.int .u8 22) w := by kernel_rfl
theorem kind43 (w : World) : ((ReflectliteType.abiMethod fun t => (fun a : Nat => Value.int IntKind.u8 (a : Int)) <$> Rtype.kind t) #[.pointer (some ⟨1, 43, none⟩)]).run Tryd.prog w = .ok (.int .u8 25) w := by kernel_rfl
theorem kind23 (w : World) : ((ReflectliteType.abiMethod fun t => (fun a : Nat => Value.int IntKind.u8 (a : Int)) <$> Rtype.kind t) #[.pointer (some ⟨1, 23, none⟩)]).run Tryd.prog w = .ok (.int .u8 2) w := by kernel_rfl
theorem elem82 (w : World) : (ReflectliteType.method ReflectliteType.elem #[.agg #[.pointer (some ⟨1, 82, none⟩)]]).run Tryd.prog w = .ok (ty 43) w := by kernel_rfl
theorem elem83 (w : World) : (ReflectliteType.method ReflectliteType.elem #[.agg #[.pointer (some ⟨1, 83, none⟩)]]).run Tryd.prog w = .ok (ty 23) w := by kernel_rfl
theorem implements43 (w : World) : (ReflectliteType.relation "Implements" ReflectliteType.implements_ #[.agg #[.pointer (some ⟨1, 43, none⟩)], ty 25]).run Tryd.prog w = .ok (.bool true) w := by kernel_rfl
theorem implements23 (w : World) : (ReflectliteType.relation "Implements" ReflectliteType.implements_ #[.agg #[.pointer (some ⟨1, 23, none⟩)], ty 25]).run Tryd.prog w = .ok (.bool true) w := by kernel_rfl
theorem typeOf43 (v : Value) (w : World) : (ReflectliteType.typeOf #[.iface 43 v]).run Tryd.prog w = .ok (ty 43) w := by kernel_rfl
theorem typeOf23 (v : Value) (w : World) : (ReflectliteType.typeOf #[.iface 23 v]).run Tryd.prog w = .ok (ty 23) w := by kernel_rfl
theorem assignable43 (w : World) : (ReflectliteType.relation "AssignableTo" ReflectliteType.assignableTo #[.agg #[.pointer (some ⟨1, 43, none⟩)], ty 43]).run Tryd.prog w = .ok (.bool true) w := by kernel_rfl
theorem assignable23 (w : World) : (ReflectliteType.relation "AssignableTo" ReflectliteType.assignableTo #[.agg #[.pointer (some ⟨1, 23, none⟩)], ty 23]).run Tryd.prog w = .ok (.bool true) w := by kernel_rfl
theorem assignable23_43 (w : World) : (ReflectliteType.relation "AssignableTo" ReflectliteType.assignableTo #[.agg #[.pointer (some ⟨1, 23, none⟩)], ty 43]).run Tryd.prog w = .ok (.bool false) w := by kernel_rfl
theorem valueOf23 (n : Int) (w : World) : (ReflectliteValue.unpack (.iface 23 (.int .i64 n))).run Tryd.prog w
    = .ok (vl 23 ⟨w.heap.size, 0, none⟩ 130) (w.alloc (.cells #[.int .i64 n] 23)) := by kernel_rfl
theorem valueOf43 (c l e : Value) (w : World) : (ReflectliteValue.unpack (.iface 43 (.agg #[c, l, e]))).run Tryd.prog w
    = .ok (vl 43 ⟨w.heap.size, 0, none⟩ 153) (w.alloc (.cells #[c, l, e] 43)) := by kernel_rfl
end Go.Proofs.Pen.As

namespace Go.Proofs.Pen.As
open Go Go.Proofs Go.RowKit Go.Extern.Stop Go.Stop Go.Extern Go.Proofs.YtfkgoljaeggbmabDoor

/-! The entries that read or write memory. -/
theorem rlm (z : Sem Value) (f : TypeId → Addr → Nat → Nat → Sem Value) (v : Value) :
    ReflectliteValue.method z f #[v] = (do match ← ReflectliteValue.parts v with | none => z | some (t, a, fl) => f t a fl (fl % 32)) := rfl
theorem parts82 (a : Addr) (w : World) : (ReflectliteValue.parts (vl 82 a 150)).run Tryd.prog w = .ok (some (82, a, 150)) w := by kernel_rfl
theorem parts83 (a : Addr) (w : World) : (ReflectliteValue.parts (vl 83 a 150)).run Tryd.prog w = .ok (some (83, a, 150)) w := by kernel_rfl
theorem under82 : Tryd.prog.underlying 82 = some (.pointer 43) := by kernel_rfl
theorem under83 : Tryd.prog.underlying 83 = some (.pointer 23) := by kernel_rfl
theorem isNil82 (a p : Addr) (W : World) (ha : W.cell? a = some (.pointer (some p))) :
    (ReflectliteValue.method (ReflectliteValue.valueError "reflectlite.Value.IsNil" 0) ReflectliteValue.isNil #[vl 82 a 150]).run Tryd.prog W = .ok (.bool false) W := by
  rw [rlm]
  simp only [Sem.run_bind, parts82, Result.andThen]
  simp [ReflectliteValue.isNil, loadVar, isAgg, underlying, under82, ha, Result.andThen]
theorem isNil83 (a p : Addr) (W : World) (ha : W.cell? a = some (.pointer (some p))) :
    (ReflectliteValue.method (ReflectliteValue.valueError "reflectlite.Value.IsNil" 0) ReflectliteValue.isNil #[vl 83 a 150]).run Tryd.prog W = .ok (.bool false) W := by
  rw [rlm]
  simp only [Sem.run_bind, parts83, Result.andThen]
  simp [ReflectliteValue.isNil, loadVar, isAgg, underlying, under83, ha, Result.andThen]
theorem elemOf82 (w : World) : (Rtype.elem? 82).run Tryd.prog w = .ok (some 43) w := by kernel_rfl
theorem elemOf83 (w : World) : (Rtype.elem? 83).run Tryd.prog w = .ok (some 23) w := by kernel_rfl
theorem mk43 (p : Addr) (w : World) : (ReflectliteValue.mk 43 p ReflectliteValue.flagAddr).run Tryd.prog w = .ok (vl 43 p 409) w := by kernel_rfl
theorem mk23 (p : Addr) (w : World) : (ReflectliteValue.mk 23 p ReflectliteValue.flagAddr).run Tryd.prog w = .ok (vl 23 p 386) w := by kernel_rfl
theorem elemV82 (a p : Addr) (W : World) (ha : W.cell? a = some (.pointer (some p))) :
    (ReflectliteValue.method (ReflectliteValue.valueError "reflectlite.Value.Elem" 0) ReflectliteValue.elem #[vl 82 a 150]).run Tryd.prog W = .ok (vl 43 p 409) W := by
  rw [rlm]
  simp only [Sem.run_bind, parts82, Result.andThen]
  simp [ReflectliteValue.elem, loadVar, isAgg, underlying, under82, ha, Result.andThen, elemOf82, mk43]
theorem elemV83 (a p : Addr) (W : World) (ha : W.cell? a = some (.pointer (some p))) :
    (ReflectliteValue.method (ReflectliteValue.valueError "reflectlite.Value.Elem" 0) ReflectliteValue.elem #[vl 83 a 150]).run Tryd.prog W = .ok (vl 23 p 386) W := by
  rw [rlm]
  simp only [Sem.run_bind, parts83, Result.andThen]
  simp [ReflectliteValue.elem, loadVar, isAgg, underlying, under83, ha, Result.andThen, elemOf83, mk23]
theorem rls (v x : Value) : ReflectliteValue.set #[v, x] = (do
    let (some (dst, a, fl), some (src, b, _)) := (← ReflectliteValue.parts v, ← ReflectliteValue.parts x)
      | unsupported (.noEntry "extern/(internal/reflectlite.Value).Set.zeroValue")
    if fl / ReflectliteValue.flagAddr % 2 == 0 then unsupported (.noEntry "extern/(internal/reflectlite.Value).Set.unaddressable")
    let val ← loadVar src b
    if ← Rtype.directlyAssignable dst src then storeVar dst a val
    else if ← Rtype.implements dst src then
      if (← Rtype.kind src) == 20 then
        match val with
        | .nilIface => unsupported (.noEntry "extern/reflectlite: a nil value of one interface type handed on as a value of another")
        | _ => storeVar dst a val
      else storeVar dst a (.iface src val)
    else panicString ("reflectlite.Set: value of type " ++ (← Rtype.spelt src) ++ " is not assignable to type " ++ (← Rtype.spelt dst))
    pure (.tuple #[])) := rfl
theorem parts23a (a : Addr) (w : World) : (ReflectliteValue.parts (vl 23 a 386)).run Tryd.prog w = .ok (some (23, a, 386)) w := by kernel_rfl
theorem parts23 (a : Addr) (w : World) : (ReflectliteValue.parts (vl 23 a 130)).run Tryd.prog w = .ok (some (23, a, 130)) w := by kernel_rfl
theorem parts43a (a : Addr) (w : World) : (ReflectliteValue.parts (vl 43 a 409)).run Tryd.prog w = .ok (some (43, a, 409)) w := by kernel_rfl
theorem parts43 (a : Addr) (w : World) : (ReflectliteValue.parts (vl 43 a 153)).run Tryd.prog w = .ok (some (43, a, 153)) w := by kernel_rfl
theorem direct23 (w : World) : (Rtype.directlyAssignable 23 23).run Tryd.prog w = .ok true w := by kernel_rfl
theorem direct43 (w : World) : (Rtype.directlyAssignable 43 43).run Tryd.prog w = .ok true w := by kernel_rfl
theorem size23 (w : World) : (sizeOf 23).run Tryd.prog w = .ok 1 w := by kernel_rfl
theorem size43 (w : World) : (sizeOf 43).run Tryd.prog w = .ok 3 w := by kernel_rfl
theorem under23 : Tryd.prog.underlying 23 = some (.int .i64) := by kernel_rfl
/-- Set at an *Errno's variable. -/
theorem set23 (ta b : Addr) (n : Int) (old : Value) (W : World) (hb : W.cell? b = some (.int .i64 n)) (ht : W.cell? ta = some old) (hf : W.frozen? ta = false) :
    (ReflectliteValue.set #[vl 23 ta 386, vl 23 b 130]).run Tryd.prog W = .ok (.tuple #[]) (W.setCell ta (.int .i64 n)) := by
  rw [rls]
  simp only [Sem.run_bind, parts23a, parts23, Result.andThen]
  simp [ReflectliteValue.flagAddr, loadVar, isAgg, underlying, under23, hb, Result.andThen, direct23, storeVar, Value.cells, storeCells, Addr.add]
  rw [run_store Tryd.prog W ta _ _ (by rfl)]
  simp [ht, hf]
end Go.Proofs.Pen.As

namespace Go.Proofs.Pen.As
open Go Go.Proofs Go.RowKit Go.Extern.Stop Go.Stop Go.Extern Go.Proofs.YtfkgoljaeggbmabDoor

theorem isAgg43 (w : World) : (isAgg 43).run Tryd.prog w = .ok true w := by kernel_rfl

/-- A Fault, read out of the Value that holds it. -/
theorem load43 (b : Addr) (c l : Int) (e : Value) (W : World) (hb : CellsIn W b [.int .i64 c, .int .i64 l, e]) : (loadVar 43 b).run Tryd.prog W = .ok (.agg #[.int .i64 c, .int .i64 l, e]) W := by
  have := run_loadCells (P := Tryd.prog) hb
  unfold loadVar
  simp only [Sem.run_bind, isAgg43, Result.andThen, if_pos, size43]
  rw [show ([.int .i64 c, .int .i64 l, e] : List Value).length = 3 from rfl] at this
  rw [this]
  rfl
/-- Set at a Fault's variable: a block of three cells. -/
theorem set43 (B : Nat) (b : Addr) (c l : Int) (e o0 o1 o2 : Value) (W : World) (he : e.oneCell' = true) (hb : CellsIn W b [.int .i64 c, .int .i64 l, e]) (ht : W.heap[B]? = some (.cells #[o0, o1, o2] 43 (0, 0))) :
    (ReflectliteValue.set #[vl 43 ⟨B, 0, none⟩ 409, vl 43 b 153]).run Tryd.prog W = .ok (.tuple #[]) (setBlk W B (.cells #[.int .i64 c, .int .i64 l, e] 43 (0, 0))) := by
  rw [rls]
  have hs := run_storeCells (P := Tryd.prog) [.int .i64 c, .int .i64 l, e] 0 0 [o0, o1, o2] W ht (by simp) (.inl rfl) (by
    intro u hu
    simp only [List.mem_cons, List.not_mem_nil, or_false] at hu
    rcases hu with rfl | rfl | rfl
    · rfl
    · rfl
    · exact he)
  have hl := load43 b c l e W hb
  have hst : (storeVar 43 ⟨B, 0, none⟩ (.agg #[.int .i64 c, .int .i64 l, e])).run Tryd.prog W = .ok () (setBlk W B (.cells #[.int .i64 c, .int .i64 l, e] 43 (0, 0))) := by
    unfold storeVar
    simp only [Sem.run_bind, size43, Result.andThen]
    exact hs
  simp only [Sem.run_bind, parts43a, parts43, Result.andThen]
  simp [ReflectliteValue.flagAddr, hl, hst, direct43, Result.andThen]
end Go.Proofs.Pen.As

namespace Go.Proofs.Pen.As
open Go Go.Proofs Go.RowKit Go.Extern.Stop Go.Stop Go.Extern Go.Proofs.YtfkgoljaeggbmabDoor

abbrev hnd : Value := .iface 165 (.agg #[.pointer (some ⟨1, 25, none⟩)])

set_option maxHeartbeats 4000000 in
theorem as_hit23 (n : Int) (t : Addr) (old : Value) (w : World) (hg : w.cell? ⟨0, 0, none⟩ = some (.iface 165 (.agg #[.pointer (some ⟨1, 25, none⟩)]))) (ht0 : w.cell? t = some old) (hf0 : w.frozen? t = false) :
    Calls Tryd.prog 35 #[.iface 23 (.int .i64 n), .iface 83 (.pointer (some t))] w fun ev w' => ev = .returned (.bool true) ∧ w' = ((((w.alloc (.cells #[.pointer (some t)] 83)).alloc (.cells #[.pointer (some ⟨1, 83, none⟩), .pointer (some ⟨w.heap.size, 0, none⟩), .int .u64 150] 124)).alloc (.cells #[.pointer (some ⟨1, 83, none⟩), .pointer (some ⟨w.heap.size, 0, none⟩), .int .u64 150] 124)).alloc (.cells #[.int .i64 n] 23)).setCell t (.int .i64 n) := by
  have h67 := @run_callFunc_extern Tryd.prog 67 _ (fun args => ReflectliteValue.unpack (args.getD 0 (.tuple #[]))) Tryd.func67 (by kernel_rfl) (by kernel_rfl) (by kernel_rfl) (by kernel_rfl)
  have h68 := @run_callFunc_extern Tryd.prog 68 _ (ReflectliteValue.methodAny (ReflectliteValue.valueError "reflectlite.Value.Type" 0) (fun t _ _ _ => ReflectliteType.toType t)) Tryd.func68 (by kernel_rfl) (by kernel_rfl) (by kernel_rfl) (by kernel_rfl)
  have h69 := @run_callFunc_extern Tryd.prog 69 _ (ReflectliteValue.method (ReflectliteValue.valueError "reflectlite.Value.IsNil" 0) ReflectliteValue.isNil) Tryd.func69 (by kernel_rfl) (by kernel_rfl) (by kernel_rfl) (by kernel_rfl)
  have h127 := @run_callFunc_extern Tryd.prog 127 _ (ReflectliteType.abiMethod fun t => do pure (.int .u8 (← Rtype.kind t))) Tryd.func127 (by kernel_rfl) (by kernel_rfl) (by kernel_rfl) (by kernel_rfl)
  have h136 := @run_callFunc_extern Tryd.prog 136 _ (ReflectliteType.method ReflectliteType.elem) Tryd.func136 (by kernel_rfl) (by kernel_rfl) (by kernel_rfl) (by kernel_rfl)
  have h137 := @run_callFunc_extern Tryd.prog 137 _ (ReflectliteType.relation "Implements" ReflectliteType.implements_) Tryd.func137 (by kernel_rfl) (by kernel_rfl) (by kernel_rfl) (by kernel_rfl)
  have h72 := @run_callFunc_extern Tryd.prog 72 _ ReflectliteType.typeOf Tryd.func72 (by kernel_rfl) (by kernel_rfl) (by kernel_rfl) (by kernel_rfl)
  have h134 := @run_callFunc_extern Tryd.prog 134 _ (ReflectliteType.relation "AssignableTo" ReflectliteType.assignableTo) Tryd.func134 (by kernel_rfl) (by kernel_rfl) (by kernel_rfl) (by kernel_rfl)
  have h99 := @run_callFunc_extern Tryd.prog 99 _ (ReflectliteValue.method (ReflectliteValue.valueError "reflectlite.Value.Elem" 0) ReflectliteValue.elem) Tryd.func99 (by kernel_rfl) (by kernel_rfl) (by kernel_rfl) (by kernel_rfl)
  have h100 := @run_callFunc_extern Tryd.prog 100 _ ReflectliteValue.set Tryd.func100 (by kernel_rfl) (by kernel_rfl) (by kernel_rfl) (by kernel_rfl)
  have tO := typeOf23
  have mA := methodAssignableTo
  have a23 := assignable23
  have v23 := valueOf23
  have f6 := valueOf83
  have f7 := type83
  have mK := methodKind
  have mE := methodElem
  have mI := methodImplements
  have k83 := kind83
  have k23 := kind23
  have e83 := elem83
  have i23 := implements23
  have n8 := isNil83 ⟨w.heap.size, 0, none⟩ t ((w.alloc (.cells #[.pointer (some t)] 83)).alloc (.cells #[.pointer (some ⟨1, 83, none⟩), .pointer (some ⟨w.heap.size, 0, none⟩), .int .u64 150] 124)) (by simp)
  have hlt : 0 < w.heap.size := by
    rcases Nat.eq_zero_or_pos w.heap.size with h0 | h
    · simp [World.cell?, h0] at hg
    · exact h
  have hg2 : ((w.alloc (.cells #[.pointer (some t)] 83)).alloc (.cells #[.pointer (some ⟨1, 83, none⟩), .pointer (some ⟨w.heap.size, 0, none⟩), .int .u64 150] 124)).cell? ⟨0, 0, none⟩ = some (.iface 165 (.agg #[.pointer (some ⟨1, 25, none⟩)])) := by
    rw [World.cell?_alloc_lt _ _ ⟨0, 0, none⟩ (by simp), World.cell?_alloc_lt _ _ ⟨0, 0, none⟩ hlt]; exact hg
  have htl : t.block < w.heap.size := by
    rcases Nat.lt_or_ge t.block w.heap.size with h | h
    · exact h
    · simp [World.cell?, Array.getElem?_eq_none h] at ht0
  have el := elemV83 ⟨w.heap.size, 0, none⟩ t (((w.alloc (.cells #[.pointer (some t)] 83)).alloc (.cells #[.pointer (some ⟨1, 83, none⟩), .pointer (some ⟨w.heap.size, 0, none⟩), .int .u64 150] 124)).alloc (.cells #[.pointer (some ⟨1, 83, none⟩), .pointer (some ⟨w.heap.size, 0, none⟩), .int .u64 150] 124)) (by rw [World.cell?_alloc_lt _ _ ⟨w.heap.size, 0, none⟩ (by simp; omega)]; simp)
  have st := set23 t ⟨w.heap.size + 1 + 1 + 1, 0, none⟩ n old ((((w.alloc (.cells #[.pointer (some t)] 83)).alloc (.cells #[.pointer (some ⟨1, 83, none⟩), .pointer (some ⟨w.heap.size, 0, none⟩), .int .u64 150] 124)).alloc (.cells #[.pointer (some ⟨1, 83, none⟩), .pointer (some ⟨w.heap.size, 0, none⟩), .int .u64 150] 124)).alloc (.cells #[.int .i64 n] 23))
    (by rw [World.cell?_alloc_at _ _ _ _ (by simp)]; rfl)
    (by rw [World.cell?_alloc_lt _ _ t (by simp; omega), World.cell?_alloc_lt _ _ t (by simp; omega), World.cell?_alloc_lt _ _ t (by simp; omega), World.cell?_alloc_lt _ _ t htl]; exact ht0)
    (by rw [World.frozen?_alloc_old _ _ t (by simp; omega), World.frozen?_alloc_old _ _ t (by simp; omega), World.frozen?_alloc_old _ _ t (by simp; omega), World.frozen?_alloc_old _ _ t (Nat.ne_of_lt htl)]; exact hf0)
  go_enter Tryd.func35, Tryd.ntmps35
  go_wp2
  refine wp_loop_rounds 1 ?_
  rw [rounds_succ]
  go_wp2
  go_ret
  exact ⟨rfl, rfl⟩
end Go.Proofs.Pen.As

namespace Go.Proofs.Pen.As
open Go Go.Proofs Go.RowKit Go.Extern.Stop Go.Stop Go.Extern Go.Proofs.YtfkgoljaeggbmabDoor

set_option maxHeartbeats 4000000 in
theorem as_hit43 (c l : Int) (e : Value) (B : Nat) (o0 o1 o2 : Value) (w : World) (he : e.oneCell' = true) (hg : w.cell? ⟨0, 0, none⟩ = some (.iface 165 (.agg #[.pointer (some ⟨1, 25, none⟩)]))) (ht0 : w.heap[B]? = some (.cells #[o0, o1, o2] 43 (0, 0))) :
    Calls Tryd.prog 35 #[.iface 43 (.agg #[.int .i64 c, .int .i64 l, e]), .iface 82 (.pointer (some ⟨B, 0, none⟩))] w fun ev w' => ev = .returned (.bool true) ∧ w' = setBlk ((((w.alloc (.cells #[.pointer (some ⟨B, 0, none⟩)] 82)).alloc (.cells #[.pointer (some ⟨1, 82, none⟩), .pointer (some ⟨w.heap.size, 0, none⟩), .int .u64 150] 124)).alloc (.cells #[.pointer (some ⟨1, 82, none⟩), .pointer (some ⟨w.heap.size, 0, none⟩), .int .u64 150] 124)).alloc (.cells #[.int .i64 c, .int .i64 l, e] 43)) B (.cells #[.int .i64 c, .int .i64 l, e] 43 (0, 0)) := by
  have h67 := @run_callFunc_extern Tryd.prog 67 _ (fun args => ReflectliteValue.unpack (args.getD 0 (.tuple #[]))) Tryd.func67 (by kernel_rfl) (by kernel_rfl) (by kernel_rfl) (by kernel_rfl)
  have h68 := @run_callFunc_extern Tryd.prog 68 _ (ReflectliteValue.methodAny (ReflectliteValue.valueError "reflectlite.Value.Type" 0) (fun t _ _ _ => ReflectliteType.toType t)) Tryd.func68 (by kernel_rfl) (by kernel_rfl) (by kernel_rfl) (by kernel_rfl)
  have h69 := @run_callFunc_extern Tryd.prog 69 _ (ReflectliteValue.method (ReflectliteValue.valueError "reflectlite.Value.IsNil" 0) ReflectliteValue.isNil) Tryd.func69 (by kernel_rfl) (by kernel_rfl) (by kernel_rfl) (by kernel_rfl)
  have h127 := @run_callFunc_extern Tryd.prog 127 _ (ReflectliteType.abiMethod fun t => do pure (.int .u8 (← Rtype.kind t))) Tryd.func127 (by kernel_rfl) (by kernel_rfl) (by kernel_rfl) (by kernel_rfl)
  have h136 := @run_callFunc_extern Tryd.prog 136 _ (ReflectliteType.method ReflectliteType.elem) Tryd.func136 (by kernel_rfl) (by kernel_rfl) (by kernel_rfl) (by kernel_rfl)
  have h137 := @run_callFunc_extern Tryd.prog 137 _ (ReflectliteType.relation "Implements" ReflectliteType.implements_) Tryd.func137 (by kernel_rfl) (by kernel_rfl) (by kernel_rfl) (by kernel_rfl)
  have h72 := @run_callFunc_extern Tryd.prog 72 _ ReflectliteType.typeOf Tryd.func72 (by kernel_rfl) (by kernel_rfl) (by kernel_rfl) (by kernel_rfl)
  have h134 := @run_callFunc_extern Tryd.prog 134 _ (ReflectliteType.relation "AssignableTo" ReflectliteType.assignableTo) Tryd.func134 (by kernel_rfl) (by kernel_rfl) (by kernel_rfl) (by kernel_rfl)
  have h99 := @run_callFunc_extern Tryd.prog 99 _ (ReflectliteValue.method (ReflectliteValue.valueError "reflectlite.Value.Elem" 0) ReflectliteValue.elem) Tryd.func99 (by kernel_rfl) (by kernel_rfl) (by kernel_rfl) (by kernel_rfl)
  have h100 := @run_callFunc_extern Tryd.prog 100 _ ReflectliteValue.set Tryd.func100 (by kernel_rfl) (by kernel_rfl) (by kernel_rfl) (by kernel_rfl)
  have tO := typeOf43
  have mA := methodAssignableTo
  have a43 := assignable43
  have v43 := valueOf43
  have f6 := valueOf82
  have f7 := type82
  have mK := methodKind
  have mE := methodElem
  have mI := methodImplements
  have k82 := kind82
  have k43 := kind43
  have e82 := elem82
  have i43 := implements43
  have n8 := isNil82 ⟨w.heap.size, 0, none⟩ ⟨B, 0, none⟩ ((w.alloc (.cells #[.pointer (some ⟨B, 0, none⟩)] 82)).alloc (.cells #[.pointer (some ⟨1, 82, none⟩), .pointer (some ⟨w.heap.size, 0, none⟩), .int .u64 150] 124)) (by simp)
  have hlt : 0 < w.heap.size := by
    rcases Nat.eq_zero_or_pos w.heap.size with h0 | h
    · simp [World.cell?, h0] at hg
    · exact h
  have hg2 : ((w.alloc (.cells #[.pointer (some ⟨B, 0, none⟩)] 82)).alloc (.cells #[.pointer (some ⟨1, 82, none⟩), .pointer (some ⟨w.heap.size, 0, none⟩), .int .u64 150] 124)).cell? ⟨0, 0, none⟩ = some (.iface 165 (.agg #[.pointer (some ⟨1, 25, none⟩)])) := by
    rw [World.cell?_alloc_lt _ _ ⟨0, 0, none⟩ (by simp), World.cell?_alloc_lt _ _ ⟨0, 0, none⟩ hlt]; exact hg
  have htl : B < w.heap.size := (Array.getElem?_eq_some_iff.1 ht0).1
  have up : ∀ (v : World) (o : Obj), B < v.heap.size → (v.alloc o).heap[B]? = v.heap[B]? := fun v o h => by
    show (v.heap.push o)[B]? = _
    rw [Array.getElem?_push, if_neg (by omega)]
  have el := elemV82 ⟨w.heap.size, 0, none⟩ ⟨B, 0, none⟩ (((w.alloc (.cells #[.pointer (some ⟨B, 0, none⟩)] 82)).alloc (.cells #[.pointer (some ⟨1, 82, none⟩), .pointer (some ⟨w.heap.size, 0, none⟩), .int .u64 150] 124)).alloc (.cells #[.pointer (some ⟨1, 82, none⟩), .pointer (some ⟨w.heap.size, 0, none⟩), .int .u64 150] 124)) (by rw [World.cell?_alloc_lt _ _ ⟨w.heap.size, 0, none⟩ (by simp; omega)]; simp)
  have st := set43 B ⟨w.heap.size + 1 + 1 + 1, 0, none⟩ c l e o0 o1 o2 (((((w.alloc (.cells #[.pointer (some ⟨B, 0, none⟩)] 82)).alloc (.cells #[.pointer (some ⟨1, 82, none⟩), .pointer (some ⟨w.heap.size, 0, none⟩), .int .u64 150] 124)).alloc (.cells #[.pointer (some ⟨1, 82, none⟩), .pointer (some ⟨w.heap.size, 0, none⟩), .int .u64 150] 124)).alloc (.cells #[.int .i64 c, .int .i64 l, e] 43))) he
    (by
      intro j u hj
      show World.cell? _ (Addr.add ⟨w.heap.size + 1 + 1 + 1, 0, none⟩ j) = some u
      rw [add_none, Nat.zero_add, World.cell?_alloc_at _ _ _ _ (by simp)]
      simpa using hj)
    (by rw [up _ _ (by simp; omega), up _ _ (by simp; omega), up _ _ (by simp; omega), up _ _ htl]; exact ht0)
  go_enter Tryd.func35, Tryd.ntmps35
  go_wp2
  refine wp_loop_rounds 1 ?_
  rw [rounds_succ]
  go_wp2
  go_ret
  exact ⟨rfl, rfl⟩
end Go.Proofs.Pen.As

namespace Go.Proofs.Pen.As
open Go Go.Proofs Go.RowKit Go.Extern.Stop Go.Stop Go.Extern Go.Proofs.YtfkgoljaeggbmabDoor

theorem noAs (v : Value) (xT : TypeId) (w : World) : (Instr.typeAssert (.iface 23 v) xT 169 true).run Tryd.prog w = .ok (.tuple #[.nilIface, .bool false]) w := run_typeAssert_lacksB Tryd.underlying169 (by kernel_rfl) (by kernel_rfl) v xT w
theorem noUnwrap (v : Value) (xT : TypeId) (w : World) : (Instr.typeAssert (.iface 23 v) xT 172 true).run Tryd.prog w = .ok (.tuple #[.nilIface, .bool false]) w := run_typeAssert_lacksB Tryd.underlying172 (by kernel_rfl) (by kernel_rfl) v xT w
theorem noUnwraps (v : Value) (xT : TypeId) (w : World) : (Instr.typeAssert (.iface 23 v) xT 173 true).run Tryd.prog w = .ok (.tuple #[.nilIface, .bool false]) w := run_typeAssert_lacksB Tryd.underlying173 (by kernel_rfl) (by kernel_rfl) v xT w

set_option maxHeartbeats 4000000 in
theorem as_miss (n : Int) (t : Addr) (w : World) (hg : w.cell? ⟨0, 0, none⟩ = some (.iface 165 (.agg #[.pointer (some ⟨1, 25, none⟩)]))) :
    Calls Tryd.prog 35 #[.iface 23 (.int .i64 n), .iface 82 (.pointer (some t))] w fun ev w' => ev = .returned (.bool false) ∧ w' = (((w.alloc (.cells #[.pointer (some t)] 82)).alloc (.cells #[.pointer (some ⟨1, 82, none⟩), .pointer (some ⟨w.heap.size, 0, none⟩), .int .u64 150] 124)).alloc (.cells #[.pointer (some ⟨1, 82, none⟩), .pointer (some ⟨w.heap.size, 0, none⟩), .int .u64 150] 124)) := by
  have h67 := @run_callFunc_extern Tryd.prog 67 _ (fun args => ReflectliteValue.unpack (args.getD 0 (.tuple #[]))) Tryd.func67 (by kernel_rfl) (by kernel_rfl) (by kernel_rfl) (by kernel_rfl)
  have h68 := @run_callFunc_extern Tryd.prog 68 _ (ReflectliteValue.methodAny (ReflectliteValue.valueError "reflectlite.Value.Type" 0) (fun t _ _ _ => ReflectliteType.toType t)) Tryd.func68 (by kernel_rfl) (by kernel_rfl) (by kernel_rfl) (by kernel_rfl)
  have h69 := @run_callFunc_extern Tryd.prog 69 _ (ReflectliteValue.method (ReflectliteValue.valueError "reflectlite.Value.IsNil" 0) ReflectliteValue.isNil) Tryd.func69 (by kernel_rfl) (by kernel_rfl) (by kernel_rfl) (by kernel_rfl)
  have h127 := @run_callFunc_extern Tryd.prog 127 _ (ReflectliteType.abiMethod fun t => do pure (.int .u8 (← Rtype.kind t))) Tryd.func127 (by kernel_rfl) (by kernel_rfl) (by kernel_rfl) (by kernel_rfl)
  have h136 := @run_callFunc_extern Tryd.prog 136 _ (ReflectliteType.method ReflectliteType.elem) Tryd.func136 (by kernel_rfl) (by kernel_rfl) (by kernel_rfl) (by kernel_rfl)
  have h137 := @run_callFunc_extern Tryd.prog 137 _ (ReflectliteType.relation "Implements" ReflectliteType.implements_) Tryd.func137 (by kernel_rfl) (by kernel_rfl) (by kernel_rfl) (by kernel_rfl)
  have h72 := @run_callFunc_extern Tryd.prog 72 _ ReflectliteType.typeOf Tryd.func72 (by kernel_rfl) (by kernel_rfl) (by kernel_rfl) (by kernel_rfl)
  have h134 := @run_callFunc_extern Tryd.prog 134 _ (ReflectliteType.relation "AssignableTo" ReflectliteType.assignableTo) Tryd.func134 (by kernel_rfl) (by kernel_rfl) (by kernel_rfl) (by kernel_rfl)
  have tO := typeOf23
  have mA := methodAssignableTo
  have a23 := assignable23_43
  have f6 := valueOf82
  have f7 := type82
  have mK := methodKind
  have mE := methodElem
  have mI := methodImplements
  have k82 := kind82
  have k43 := kind43
  have e82 := elem82
  have i43 := implements43
  have n8 := isNil82 ⟨w.heap.size, 0, none⟩ t ((w.alloc (.cells #[.pointer (some t)] 82)).alloc (.cells #[.pointer (some ⟨1, 82, none⟩), .pointer (some ⟨w.heap.size, 0, none⟩), .int .u64 150] 124)) (by simp)
  have hlt : 0 < w.heap.size := by
    rcases Nat.eq_zero_or_pos w.heap.size with h0 | h
    · simp [World.cell?, h0] at hg
    · exact h
  have hg2 : ((w.alloc (.cells #[.pointer (some t)] 82)).alloc (.cells #[.pointer (some ⟨1, 82, none⟩), .pointer (some ⟨w.heap.size, 0, none⟩), .int .u64 150] 124)).cell? ⟨0, 0, none⟩ = some (.iface 165 (.agg #[.pointer (some ⟨1, 25, none⟩)])) := by
    rw [World.cell?_alloc_lt _ _ ⟨0, 0, none⟩ (by simp), World.cell?_alloc_lt _ _ ⟨0, 0, none⟩ hlt]; exact hg
  have q1 := noAs
  have q2 := noUnwrap
  have q3 := noUnwraps
  go_enter Tryd.func35, Tryd.ntmps35
  go_wp2
  refine wp_loop_rounds 1 ?_
  rw [rounds_succ]
  go_wp2
  go_ret
  exact ⟨rfl, rfl⟩
end Go.Proofs.Pen.As

namespace Go.Proofs.Pen.As
open Go Go.Proofs Go.RowKit Go.Extern.Stop Go.Stop Go.Extern Go.Proofs.YtfkgoljaeggbmabDoor

/-- The two variables of fault.Code. -/
noncomputable abbrev two (w : World) : World := (w.alloc (.cells #[.int .i64 0, .int .i64 0, .nilIface] 43)).alloc (.cells #[.int .i64 0] 23)

theorem code_nil (w : World) : Calls Tryd.prog 10 #[.nilIface] w fun ev w' => ev = .returned (.int .i64 0) ∧ w' = two w := by
  go_enter Tryd.func10, Tryd.ntmps10
  go_wp2
  go_ret
  exact ⟨rfl, rfl⟩

theorem kept_alloc (w : World) (o : Obj) : Below w.heap.size w (w.alloc o) := ⟨rfl, rfl, rfl, by show _ ≤ (w.heap.push o).size; simp, fun b hb => by
  show (w.heap.push o)[b]? = _
  rw [Array.getElem?_push, if_neg (by omega)]⟩
theorem below_more {n : Nat} {a b c : World} (h : Below n a b) (k : Below b.heap.size b c) (hn : n ≤ b.heap.size) : Below n a c :=
  ⟨k.os.trans h.os, k.tape.trans h.tape, k.output.trans h.output, Nat.le_trans h.size k.size, fun x hx => (k.block x (by omega)).trans (h.block x hx)⟩

theorem four (w : World) (a b c d : Obj) : Below w.heap.size w ((((w.alloc a).alloc b).alloc c).alloc d) :=
  below_more (below_more (below_more (kept_alloc w a) (kept_alloc _ b) (by simp)) (kept_alloc _ c) (by simp; omega)) (kept_alloc _ d) (by simp; omega)
theorem below_set {m n B : Nat} {w X : World} {o : Obj} (h : Below m w X) (hB : n ≤ B) (hn : n ≤ m) : Below n w (setBlk X B o) :=
  ⟨h.os, h.tape, h.output, by show _ ≤ (Array.setIfInBounds _ _ _).size; rw [Array.size_setIfInBounds]; exact h.size, fun b hb => by rw [setBlk_other (by omega)]; exact h.block b (by omega)⟩

/-- What errors.As leaves at a Fault. -/
theorem hit43 (c l : Int) (e : Value) (B : Nat) (o0 o1 o2 : Value) (w : World) (he : e.oneCell' = true) (hg : w.cell? ⟨0, 0, none⟩ = some (.iface 165 (.agg #[.pointer (some ⟨1, 25, none⟩)]))) (ht0 : w.heap[B]? = some (.cells #[o0, o1, o2] 43 (0, 0))) :
    Calls Tryd.prog 35 #[.iface 43 (.agg #[.int .i64 c, .int .i64 l, e]), .iface 82 (.pointer (some ⟨B, 0, none⟩))] w fun ev w' => ev = .returned (.bool true) ∧ w'.cell? ⟨B, 0, none⟩ = some (.int .i64 c) ∧ ∀ n, n ≤ B → Below n w w' := by
  refine (as_hit43 c l e B o0 o1 o2 w he hg ht0).mono ?_
  rintro ev w' ⟨rfl, rfl⟩
  have htl : B < w.heap.size := (Array.getElem?_eq_some_iff.1 ht0).1
  refine ⟨rfl, ?_, fun n hn => ?_⟩
  · have hB : (World.heap _)[B]? = some (.cells #[o0, o1, o2] 43 (0, 0)) := ((four w (.cells #[.pointer (some ⟨B, 0, none⟩)] 82) (.cells #[.pointer (some ⟨1, 82, none⟩), .pointer (some ⟨w.heap.size, 0, none⟩), .int .u64 150] 124) (.cells #[.pointer (some ⟨1, 82, none⟩), .pointer (some ⟨w.heap.size, 0, none⟩), .int .u64 150] 124) (.cells #[.int .i64 c, .int .i64 l, e] 43)).block B htl).trans ht0
    have := setBlk_at (o := .cells #[.int .i64 c, .int .i64 l, e] 43 (0, 0)) hB
    exact cell_at (vs := [.int .i64 c, .int .i64 l, e]) this 0
  · exact below_set (four w _ _ _ _) hn (by omega)

set_option maxHeartbeats 4000000 in
theorem code_fault (c l : Int) (e : Value) (w : World) (he : e.oneCell' = true) (hg : w.cell? ⟨0, 0, none⟩ = some (.iface 165 (.agg #[.pointer (some ⟨1, 25, none⟩)]))) :
    Calls Tryd.prog 10 #[.iface 43 (.agg #[.int .i64 c, .int .i64 l, e])] w fun ev w' => ev = .returned (.int .i64 c) ∧ Below w.heap.size w w' := by
  have hlt : 0 < w.heap.size := by
    rcases Nat.eq_zero_or_pos w.heap.size with h0 | h
    · simp [World.cell?, h0] at hg
    · exact h
  have hgA : (two w).cell? ⟨0, 0, none⟩ = some (.iface 165 (.agg #[.pointer (some ⟨1, 25, none⟩)])) := by
    rw [World.cell?_alloc_lt _ _ ⟨0, 0, none⟩ (by simp), World.cell?_alloc_lt _ _ ⟨0, 0, none⟩ hlt]; exact hg
  have htA : (two w).heap[w.heap.size]? = some (.cells #[.int .i64 0, .int .i64 0, .nilIface] 43 (0, 0)) := by
    show ((w.heap.push _).push _)[w.heap.size]? = _
    rw [Array.getElem?_push, if_neg (by simp), Array.getElem?_push, if_pos rfl]
  have hbA : Below w.heap.size w (two w) := below_more (kept_alloc w _) (kept_alloc _ _) (by simp)
  go_enter Tryd.func10, Tryd.ntmps10
  go_wp2_with (first | (go_at_call 35; refine (hit43 _ _ _ _ _ _ _ _ he hgA htA).mono ?_; rintro ev w' ⟨rfl, hc, hb⟩))
  go_ret
  refine ⟨rfl, ?_⟩
  have := hb w.heap.size (Nat.le_refl _)
  exact ⟨this.os.trans hbA.os, this.tape.trans hbA.tape, this.output.trans hbA.output, Nat.le_trans hbA.size this.size, fun b hb' => (this.block b hb').trans (hbA.block b hb')⟩
end Go.Proofs.Pen.As

namespace Go.Proofs.Pen.As
open Go Go.Proofs Go.RowKit Go.Extern.Stop Go.Stop Go.Extern Go.Proofs.YtfkgoljaeggbmabDoor

theorem three (w : World) (a b c : Obj) : Below w.heap.size w (((w.alloc a).alloc b).alloc c) :=
  below_more (below_more (kept_alloc w a) (kept_alloc _ b) (by simp)) (kept_alloc _ c) (by simp; omega)

theorem miss43 (n : Int) (t : Addr) (w : World) (hg : w.cell? ⟨0, 0, none⟩ = some (.iface 165 (.agg #[.pointer (some ⟨1, 25, none⟩)]))) :
    Calls Tryd.prog 35 #[.iface 23 (.int .i64 n), .iface 82 (.pointer (some t))] w fun ev w' => ev = .returned (.bool false) ∧ Below w.heap.size w w' := by
  refine (as_miss n t w hg).mono ?_
  rintro ev w' ⟨rfl, rfl⟩
  exact ⟨rfl, three w _ _ _⟩

theorem hit23 (n : Int) (B : Nat) (old : Value) (w : World) (hg : w.cell? ⟨0, 0, none⟩ = some (.iface 165 (.agg #[.pointer (some ⟨1, 25, none⟩)]))) (ht0 : w.heap[B]? = some (.cells #[old] 23 (0, 0))) :
    Calls Tryd.prog 35 #[.iface 23 (.int .i64 n), .iface 83 (.pointer (some ⟨B, 0, none⟩))] w fun ev w' => ev = .returned (.bool true) ∧ w'.cell? ⟨B, 0, none⟩ = some (.int .i64 n) ∧ ∀ m, m ≤ B → Below m w w' := by
  have htl : B < w.heap.size := (Array.getElem?_eq_some_iff.1 ht0).1
  refine (as_hit23 n ⟨B, 0, none⟩ old w hg (cell_at (vs := [old]) ht0 0) (by simp [World.frozen?, ht0])).mono ?_
  rintro ev w' ⟨rfl, rfl⟩
  have hB : (World.heap _)[B]? = some (.cells [old].toArray 23 (0, 0)) := ((four w (.cells #[.pointer (some ⟨B, 0, none⟩)] 83) (.cells #[.pointer (some ⟨1, 83, none⟩), .pointer (some ⟨w.heap.size, 0, none⟩), .int .u64 150] 124) (.cells #[.pointer (some ⟨1, 83, none⟩), .pointer (some ⟨w.heap.size, 0, none⟩), .int .u64 150] 124) (.cells #[.int .i64 n] 23)).block B htl).trans ht0
  rw [setCell_setBlk hB]
  exact ⟨rfl, cell_at (vs := [.int .i64 n]) (setBlk_at hB) 0, fun m hm => below_set (four w _ _ _ _) hm (by omega)⟩

set_option maxRecDepth 100000 in
set_option maxHeartbeats 4000000 in
theorem code_errno (n : Int) (w : World) (hg : w.cell? ⟨0, 0, none⟩ = some (.iface 165 (.agg #[.pointer (some ⟨1, 25, none⟩)]))) :
    Calls Tryd.prog 10 #[.iface 23 (.int .i64 n)] w fun ev w' => ev = .returned (.int .i64 n) ∧ Below w.heap.size w w' := by
  have hlt : 0 < w.heap.size := by
    rcases Nat.eq_zero_or_pos w.heap.size with h0 | h
    · simp [World.cell?, h0] at hg
    · exact h
  have hgA : (two w).cell? ⟨0, 0, none⟩ = some (.iface 165 (.agg #[.pointer (some ⟨1, 25, none⟩)])) := by
    rw [World.cell?_alloc_lt _ _ ⟨0, 0, none⟩ (by simp), World.cell?_alloc_lt _ _ ⟨0, 0, none⟩ hlt]; exact hg
  have htA : (two w).heap[w.heap.size + 1]? = some (.cells #[.int .i64 0] 23 (0, 0)) := by
    show ((w.heap.push _).push _)[w.heap.size + 1]? = _
    rw [Array.getElem?_push, if_pos (by simp)]
  have hbA : Below w.heap.size w (two w) := below_more (kept_alloc w _) (kept_alloc _ _) (by simp)
  have hszA : (two w).heap.size = w.heap.size + 1 + 1 := by simp
  have step : ∀ w1, Below (two w).heap.size (two w) w1 → w1.cell? ⟨0, 0, none⟩ = some (.iface 165 (.agg #[.pointer (some ⟨1, 25, none⟩)])) ∧ w1.heap[w.heap.size + 1]? = some (.cells #[.int .i64 0] 23 (0, 0)) := fun w1 h => by
    have z0 : 0 < (two w).heap.size := by rw [hszA]; omega
    have z1 : w.heap.size + 1 < (two w).heap.size := by rw [hszA]; omega
    have e0 := h.block 0 z0
    have e1 := h.block _ z1
    refine ⟨?_, e1.trans htA⟩
    rw [← hgA]
    unfold World.cell?
    rw [e0]
  go_enter Tryd.func10, Tryd.ntmps10
  go_wp2_with (first
    | (go_at_call 35; refine (hit23 _ _ _ _ g1 t1).mono ?_; rintro ev w2 ⟨rfl, hc, hb2⟩)
    | (go_at_call 35; refine (miss43 _ _ _ hgA).mono ?_; rintro ev w1 ⟨rfl, hb1⟩; obtain ⟨g1, t1⟩ := step w1 hb1))
  go_ret
  refine ⟨rfl, ?_⟩
  have q := hb2 w.heap.size (by omega)
  exact ⟨q.os.trans (hb1.os.trans hbA.os), q.tape.trans (hb1.tape.trans hbA.tape), q.output.trans (hb1.output.trans hbA.output), Nat.le_trans hbA.size (Nat.le_trans hb1.size q.size),
    fun b hb' => (q.block b hb').trans ((hb1.block b (by omega)).trans (hbA.block b hb'))⟩
end Go.Proofs.Pen.As

namespace Go.Proofs.Pen
open Go Go.Proofs Go.RowKit Go.Extern.Stop Go.Stop Go.Extern Go.Proofs.YtfkgoljaeggbmabDoor

/-- What an error's chain goes on with: nothing, or another error. -/
def linkAV : AV → Bool
  | .nili => true
  | .ifc _ _ => true
  | _ => false

def ErrD.top : ErrD → Int
  | .nil => 0
  | .code n => n
  | .fault c _ _ => c

theorem err_one (tf te : Nat) : ∀ e : ErrD, (errVal tf te e).oneCell' = true
  | .nil => rfl
  | .code _ => rfl
  | .fault _ _ _ => rfl

/-- fault.Code. -/
def codeAV : List AV → T AV
  | [.nili] => .ret (.it .i64 0)
  | [.ifc t (.agg [.it .i64 c, .it .i64 _, e])] => if t = 43 ∧ linkAV e = true then .ret (.it .i64 c) else .fail
  | [.ifc t (.it .i64 n)] => if t = 23 then .ret (.it .i64 n) else .fail
  | [.er tf te x] => if tf = 43 ∧ te = 23 then .ret (.it .i64 x.top) else .fail
  | _ => .fail

theorem link_one {r : Res} {e : AV} {v : Value} (h : linkAV e = true) (hv : VRel r e v) : v.oneCell' = true := by
  cases e <;> simp [linkAV] at h
  · simp only [VRel] at hv; subst hv; rfl
  · simp only [VRel] at hv; obtain ⟨u, rfl, _⟩ := hv; rfl

theorem code_ok : FnOK Tryd.prog 10 codeAV := by
  intro args v hv
  refine ⟨by kernel_rfl, fun r w us hι hp hgl hl => ?_⟩
  have hg : w.cell? ⟨0, 0, none⟩ = some (.iface 165 (.agg #[.pointer (some ⟨1, 25, none⟩)])) := hp _ _ (hgl _ _ door_globOf)
  have close : ∀ (n : Int) (us : List Value), v = .it .i64 n → (Calls Tryd.prog 10 us.toArray w fun ev w' => ev = .returned (.int .i64 n) ∧ Below w.heap.size w w') →
      Calls Tryd.prog 10 us.toArray w fun e w' => ∃ u r', e = .returned u ∧ r.le r' ∧ Below w.heap.size w w' ∧ (∀ a x, r'.H a = some x → w'.cell? a = some x) ∧
        (∀ a x, r'.H a = some x → r.H a = some x ∨ w.heap.size ≤ a.block) ∧ (∀ i, r'.ι i = none) ∧ VRel r' v u := by
    intro n us hvn h
    refine h.mono ?_
    rintro ev w' ⟨rfl, hb⟩
    refine ⟨_, r, rfl, .refl r, hb, fun a x e => ?_, fun a x e => .inl e, hι, by subst hvn; simp only [VRel]⟩
    have hc := hp a x e
    have hlt : a.block < w.heap.size := by
      rcases Nat.lt_or_ge a.block w.heap.size with h | h
      · exact h
      · simp [World.cell?, Array.getElem?_eq_none h] at hc
    rw [← hc]
    exact World.cell?_of_block (hb.block _ hlt)
  unfold codeAV at hv
  split at hv
  · have := run_ret hv; subst this
    simp only [LRel] at hl
    obtain ⟨u, us', rfl, hu, hl⟩ := hl
    simp only [VRel] at hu; subst hu
    subst hl
    refine close 0 _ rfl ((As.code_nil w).mono ?_)
    rintro ev w' ⟨rfl, rfl⟩
    exact ⟨rfl, As.below_more (As.kept_alloc w _) (As.kept_alloc _ _) (by simp)⟩
  · rename_i t c l e
    split at hv
    · rename_i ht
      obtain ⟨rfl, hlk⟩ := ht
      have := run_ret hv; subst this
      simp only [LRel] at hl
      obtain ⟨u, us', rfl, hu, hl⟩ := hl
      subst hl
      simp only [VRel, LRel] at hu
      obtain ⟨u1, rfl, vs, rfl, x1, y1, rfl, rfl, x2, y2, rfl, rfl, x3, y3, rfl, h3, rfl⟩ := hu
      exact close c _ rfl (As.code_fault c l x3 w (link_one hlk h3) hg)
    · exact (run_fail hv).elim
  · rename_i t n
    split at hv
    · rename_i ht
      subst ht
      have := run_ret hv; subst this
      simp only [LRel] at hl
      obtain ⟨u, us', rfl, hu, hl⟩ := hl
      subst hl
      simp only [VRel] at hu
      obtain ⟨u1, rfl, rfl⟩ := hu
      exact close n _ rfl (As.code_errno n w hg)
    · exact (run_fail hv).elim
  · rename_i tf te x
    split at hv
    · rename_i ht
      obtain ⟨rfl, rfl⟩ := ht
      have := run_ret hv; subst this
      simp only [LRel] at hl
      obtain ⟨u, us', rfl, hu, hl⟩ := hl
      subst hl
      simp only [VRel] at hu
      subst hu
      cases x with
      | nil =>
        refine close 0 _ rfl ((As.code_nil w).mono ?_)
        rintro ev w' ⟨rfl, rfl⟩
        exact ⟨rfl, As.below_more (As.kept_alloc w _) (As.kept_alloc _ _) (by simp)⟩
      | code n => exact close n _ rfl (As.code_errno n w hg)
      | fault c l e => exact close c _ rfl (As.code_fault c l (errVal 43 23 e) w (err_one 43 23 e) hg)
    · exact (run_fail hv).elim
  · exact (run_fail hv).elim
end Go.Proofs.Pen

namespace Go.Proofs.Pen
open Go Go.Proofs
abbrev TI : Ty := (.int .i64)
abbrev TE : Ty := (.er 43 23)
abbrev TF : Ty := (.st (.pair (.int .i64) (.pair (.int .i64) (.er 43 23))))
abbrev TP : Ty := (.st (.pair (.int .i64) (.pair (.int .i64) (.int .i64))))
abbrev TLitD : Ty := (.st (.pair (.int .i64) (.st (.pair (.int .i64) (.pair (.int .i64) (.int .i64))))))
abbrev TMatD : Ty := (.st (.pair (.st (.pair (.int .i64) (.pair (.int .i64) (.int .i64)))) (.pair (.st (.pair (.int .i64) (.pair (.int .i64) (.int .i64)))) (.int .i64))))
abbrev TTriD : Ty := (.st (.pair (.st (.pair (.int .i64) (.pair (.int .i64) (.int .i64)))) (.pair (.st (.pair (.int .i64) (.pair (.int .i64) (.int .i64)))) (.pair (.st (.pair (.int .i64) (.pair (.int .i64) (.int .i64)))) (.int .i64)))))
abbrev TCam : Ty := (.st (.pair (.st (.pair (.int .i64) (.pair (.int .i64) (.int .i64)))) (.pair (.st (.pair (.int .i64) (.pair (.int .i64) (.int .i64)))) (.pair (.st (.pair (.int .i64) (.pair (.int .i64) (.int .i64)))) (.pair (.int .i64) (.pair (.int .i64) (.int .i64)))))))
abbrev TScn : Ty := (.st (.pair (.sl (.st (.pair (.st (.pair (.int .i64) (.pair (.int .i64) (.int .i64)))) (.pair (.st (.pair (.int .i64) (.pair (.int .i64) (.int .i64)))) (.int .i64))))) (.pair (.sl (.st (.pair (.st (.pair (.int .i64) (.pair (.int .i64) (.int .i64)))) (.pair (.st (.pair (.int .i64) (.pair (.int .i64) (.int .i64)))) (.pair (.st (.pair (.int .i64) (.pair (.int .i64) (.int .i64)))) (.int .i64)))))) (.pair (.sl (.st (.pair (.int .i64) (.st (.pair (.int .i64) (.pair (.int .i64) (.int .i64))))))) (.pair (.int .i64) (.pair (.sl (.st (.pair (.int .i64) (.pair (.int .i64) (.int .i64))))) (.pair (.st (.pair (.st (.pair (.int .i64) (.pair (.int .i64) (.int .i64)))) (.pair (.st (.pair (.int .i64) (.pair (.int .i64) (.int .i64)))) (.pair (.st (.pair (.int .i64) (.pair (.int .i64) (.int .i64)))) (.pair (.int .i64) (.pair (.int .i64) (.int .i64))))))) (.pair (.int .i64) (.int .i64)))))))))
theorem mixed : Tryd.prog.follows .mixedOrders = true := by kernel_rfl
theorem x72 : ExOK Tryd.prog 72 (typeOfAV 165 Tryd.prog.globals.size) := typeOf_ok (by intros; kernel_rfl) (by intros; kernel_rfl)
theorem x135 : ExOK Tryd.prog 135 (comparableAV Tryd.prog.globals.size [23]) := comparable_ok (by intro t h w; rw [show t = 23 by simpa using h]; kernel_rfl)
noncomputable def Xs : Nat → List AV → T AV := ext (ext (ext noQ 72 (typeOfAV 165 Tryd.prog.globals.size)) 135 (comparableAV Tryd.prog.globals.size [23])) 10 codeAV
theorem Xok : QuietOK Tryd.prog Xs := quiet_ext (quiet_extE (quiet_extE (quiet_none _) x72) x135) code_ok
end Go.Proofs.Pen

namespace Go.Proofs.Pen
open Go Go.Proofs
noncomputable def fault_New.t (x : Int × Int) : T (ErrD) := T.ite (x.1 == (0 : Int)) (T.ret ErrD.nil) (T.ret (ErrD.fault x.1 x.2 ErrD.nil))
noncomputable def fault_New (x : Int × Int) : Option (ErrD) := (fault_New.t x).run
noncomputable def fault_New.q : List AV → T AV := entry [TI, TI] (outR [TE]) fun x => .opt (fault_New x) .ret
theorem fault_New.ok : FnOK Tryd.prog 19 fault_New.q :=
  entry_call (ps := [TI, TI]) (rs := [TE]) (F := ({ quiet := Xs, deep := noDeep } : Fns)) (D := D0) (S := tabS []) (t := fault_New.t) mixed Xok (deep_none _) Tryd.func19 (by kernel_rfl) (sok_fn trivial) (by kernel_rfl) (fun x => by kernel_rfl)
end Go.Proofs.Pen

namespace Go.Proofs.Pen
open Go Go.Proofs
noncomputable def fault_Wrap.t (x : ErrD × Int × Int) : T (ErrD) := T.ite (ErrD.isNil x.1 || x.2.1 == (0 : Int)) (T.ret x.1) (T.ret (ErrD.fault x.2.1 x.2.2 x.1))
noncomputable def fault_Wrap (x : ErrD × Int × Int) : Option (ErrD) := (fault_Wrap.t x).run
noncomputable def fault_Wrap.q : List AV → T AV := entry [TE, TI, TI] (outR [TE]) fun x => .opt (fault_Wrap x) .ret
theorem fault_Wrap.ok : FnOK Tryd.prog 18 fault_Wrap.q :=
  entry_call (ps := [TE, TI, TI]) (rs := [TE]) (F := ({ quiet := Xs, deep := noDeep } : Fns)) (D := D0) (S := tabS []) (t := fault_Wrap.t) mixed Xok (deep_none _) Tryd.func18 (by kernel_rfl) (sok_fn trivial) (by kernel_rfl) (fun x => by kernel_rfl)
end Go.Proofs.Pen

namespace Go.Proofs.Pen
open Go Go.Proofs
def law01_chain.L0 : List (Nat × Lay) := [(0, .val (.sl (.st (.pair TI TI)))), (4, .val TE), (5, .row (.st (.pair TI TI))), (6, .val TI)]
noncomputable def law01_chain.t0 (x : (List (Int × Int)) × ErrD × List (Int × Int) × Int × Unit) : T (Ex × (List (Int × Int)) × ErrD × List (Int × Int) × Int × Unit) := T.ite (decide (x.2.2.2.1 < (↑(List.length x.1) : Int)) && decide (x.2.2.2.1 < (40 : Int))) (T.opt (lget x.1 x.2.2.2.1) fun y => T.ite (y.1 == (0 : Int)) (T.ret (Ex.normal, x.1, x.2.1, List.take x.2.2.1.length x.2.2.1, W (x.2.2.2.1 + (1 : Int)), ())) (T.ite ((↑x.2.2.1.length : Int) == (0 : Int)) (T.opt (lget x.1 x.2.2.2.1) fun y => T.opt (lget x.1 x.2.2.2.1) fun y_1 => T.opt (fault_New (y.1, y_1.snd)) fun y => T.opt (lget x.1 x.2.2.2.1) fun y_2 => T.ite (decide ((x.2.2.1.length + (1 : Nat)) * nat_lit 16 ≤ most)) (T.ret (Ex.normal, x.1, y, List.take (x.2.2.1.length + (1 : Nat)) (List.take x.2.2.1.length x.2.2.1 ++ [y_2]), W (x.2.2.2.1 + (1 : Int)), ())) T.fail) (T.opt (lget x.1 x.2.2.2.1) fun y => T.opt (lget x.1 x.2.2.2.1) fun y_1 => T.opt (fault_Wrap (x.2.1, y.1, y_1.snd)) fun y => T.opt (lget x.1 x.2.2.2.1) fun y_2 => T.ite (decide ((x.2.2.1.length + (1 : Nat)) * nat_lit 16 ≤ most)) (T.ret (Ex.normal, x.1, y, List.take (x.2.2.1.length + (1 : Nat)) (List.take x.2.2.1.length x.2.2.1 ++ [y_2]), W (x.2.2.2.1 + (1 : Int)), ())) T.fail))) (T.ret (Ex.exit (0 : Nat), x.1, x.2.1, List.take x.2.2.1.length x.2.2.1, x.2.2.2.1, ()))
noncomputable def law01_chain.l0 (x : (List (Int × Int)) × ErrD × List (Int × Int) × Int × Unit) : Option (Ex × (List (Int × Int)) × ErrD × List (Int × Int) × Int × Unit) := (iterT law01_chain.t0 rounds x).run
theorem law01_chain.k0 : bodies 0 (lp Tryd.f8 []) = [.loop (loopIn 0 (lp Tryd.f8 []))] ∧ WP Tryd.prog 0 (.block 0 (.loop (loopIn 0 (lp Tryd.f8 [])))) (loopS law01_chain.L0 58 0 [.exit 0] law01_chain.l0) :=
  loop_tree (L := law01_chain.L0) (F := ({ quiet := (ext (ext Xs 19 fault_New.q) 18 fault_Wrap.q), deep := noDeep } : Fns)) (D := D0) (tab := []) (t := law01_chain.t0) mixed (quiet_ext (quiet_ext Xok fault_New.ok) fault_Wrap.ok) (deep_none _) (fun _ => rfl) (by kernel_rfl) (by kernel_rfl) trivial (fun x => by kernel_rfl)
noncomputable def law01_chain.t (x : (List (Int × Int))) : T (ErrD × (List (Int × Int))) := T.opt (law01_chain.l0 (x, ErrD.nil, [], (0 : Int), ())) fun y => T.ite (exEq y.1 (Ex.exit (0 : Nat))) (T.ret (y.2.2.1, List.take y.2.2.2.1.length y.2.2.2.1)) T.fail
noncomputable def law01_chain (x : (List (Int × Int))) : Option (ErrD × (List (Int × Int))) := (law01_chain.t x).run
noncomputable def law01_chain.q : List AV → T AV := entry [(.sl (.st (.pair TI TI)))] (outR [TE, (.sl (.st (.pair TI TI)))]) fun x => .opt (law01_chain x) .ret
theorem law01_chain.ok : FnOK Tryd.prog 8 law01_chain.q :=
  entry_call (ps := [(.sl (.st (.pair TI TI)))]) (rs := [TE, (.sl (.st (.pair TI TI)))]) (F := ({ quiet := (ext (ext Xs 19 fault_New.q) 18 fault_Wrap.q), deep := noDeep } : Fns)) (D := D0) (S := tabS [(0, loopS law01_chain.L0 58 0 [.exit 0] law01_chain.l0)]) (t := law01_chain.t) mixed (quiet_ext (quiet_ext Xok fault_New.ok) fault_Wrap.ok) (deep_none _) Tryd.func8 (by kernel_rfl) (sok_fn ⟨law01_chain.k0, trivial⟩) (by kernel_rfl) (fun x => by kernel_rfl)
end Go.Proofs.Pen

namespace Go.Proofs.Pen
open Go Go.Proofs
set_option maxRecDepth 100000
noncomputable def law01_awake.t (_ : Unit) : T (Bool) := T.ret true
noncomputable def law01_awake.q : List AV → T AV := entry [] (outR [.bool]) fun _ => .ret (true : dens [.bool])
theorem law01_awake.ok : FnOK Tryd.prog 9 law01_awake.q := peK_entry mixed Xok [10] 100 20 Tryd.func9 (by kernel_rfl) (by kernel_rfl)
end Go.Proofs.Pen

namespace Go.Proofs.Pen
open Go Go.Proofs
noncomputable def fault_Fault_Unwrap.t (x : (Int × Int × ErrD)) : T (ErrD) := T.ret x.2.2
noncomputable def fault_Fault_Unwrap.q : List AV → T AV := entry [TF] (outR [TE]) fault_Fault_Unwrap.t
theorem fault_Fault_Unwrap.ok : FnOK Tryd.prog 21 fault_Fault_Unwrap.q :=
  entry_in (ps := [TF]) (rs := [TE]) (F := ({ quiet := Xs, deep := noDeep } : Fns)) (D := D0) (S := tabS []) (t := fault_Fault_Unwrap.t) mixed Xok (deep_none _) Tryd.func21 (by kernel_rfl) (sok_fn trivial) (by kernel_rfl) (fun x => by kernel_rfl)
end Go.Proofs.Pen

namespace Go.Proofs.Pen
open Go Go.Proofs
noncomputable def errors_Unwrap.t (x : ErrD) : T (ErrD) := T.ite (!ErrD.isFault x) (T.ret ErrD.nil) (T.ite (ErrD.onlyF x).isFault (T.ret (ErrD.onlyF x).faultE) (T.ite (ErrD.onlyF x).isCode T.fail T.fail))
noncomputable def errors_Unwrap (x : ErrD) : Option (ErrD) := (errors_Unwrap.t x).run
noncomputable def errors_Unwrap.q : List AV → T AV := entry [TE] (outR [TE]) fun x => .opt (errors_Unwrap x) .ret
theorem errors_Unwrap.ok : FnOK Tryd.prog 71 errors_Unwrap.q :=
  entry_call (ps := [TE]) (rs := [TE]) (F := ({ quiet := (ext Xs 21 fault_Fault_Unwrap.q), deep := noDeep } : Fns)) (D := D0) (S := tabS []) (t := errors_Unwrap.t) mixed (quiet_ext Xok fault_Fault_Unwrap.ok) (deep_none _) Tryd.func71 (by kernel_rfl) (sok_fn trivial) (by kernel_rfl) (fun x => by kernel_rfl)
end Go.Proofs.Pen

namespace Go.Proofs.Pen
open Go Go.Proofs
noncomputable def eachLine.deeps : Deeps := { D := [37], C := [], frz := false, S := fun _ _ => noS }
theorem eachLine.deepsOk : LoopsOK Tryd.prog eachLine.deeps.S := (loops_none _)
def eachLine.L0 : List (Nat × Lay) := [(9000, .blk 0 TI), (0, .val TE), (1, .clo 37 [0]), (4, .val TI)]
noncomputable def eachLine.t0 (x : Int × ErrD × Int × Unit) : T (Ex × Int × ErrD × Int × Unit) := T.ite (!ErrD.isNil x.2.1 && decide (x.2.2.1 < (64 : Int))) (T.ite (ErrD.isFault x.2.1 && x.1 == (0 : Int)) (T.opt (errors_Unwrap x.2.1) fun y => T.ret (Ex.normal, ErrD.faultL x.2.1, y, W (x.2.2.1 + (1 : Int)), ())) (T.opt (errors_Unwrap x.2.1) fun y => T.ret (Ex.normal, x.1, y, W (x.2.2.1 + (1 : Int)), ()))) (T.ret (Ex.exit (0 : Nat), x.1, x.2.1, x.2.2.1, ()))
noncomputable def eachLine.l0 (x : Int × ErrD × Int × Unit) : Option (Ex × Int × ErrD × Int × Unit) := (iterT eachLine.t0 rounds x).run
theorem eachLine.k0 : bodies 0 (lp Tryd.f36 []) = [.loop (loopIn 0 (lp Tryd.f36 []))] ∧ WP Tryd.prog 1 (.block 0 (.loop (loopIn 0 (lp Tryd.f36 [])))) (loopS eachLine.L0 18 0 [.exit 0] eachLine.l0) :=
  loop_treeN 1 (L := eachLine.L0) (F := (dp Tryd.prog (ext Xs 71 errors_Unwrap.q) eachLine.deeps 100 8)) (D := (inL eachLine.deeps.D)) (tab := []) (t := eachLine.t0) mixed (dp_ok mixed (quiet_ext Xok errors_Unwrap.ok) eachLine.deepsOk 100 8).1 (dp_ok mixed (quiet_ext Xok errors_Unwrap.ok) eachLine.deepsOk 100 8).2 (fun _ => rfl) (by kernel_rfl) (by kernel_rfl) trivial (fun x => by kernel_rfl)
noncomputable def eachLine.S : List (Nat × (St → T (Ex × St))) := [(0, loopS eachLine.L0 18 0 [.exit 0] eachLine.l0)]
theorem eachLine.tab : TabOK Tryd.prog 1 (codeOf Tryd.f36) eachLine.S := ⟨eachLine.k0, trivial⟩
end Go.Proofs.Pen

namespace Go.Proofs.Pen
open Go Go.Proofs
noncomputable def fault_Line.deeps : Deeps := { D := [36, 37], C := [], frz := false, S := extSn (fun _ _ => noS) 36 1 (tabS eachLine.S) }
theorem fault_Line.deepsOk : LoopsOK Tryd.prog fault_Line.deeps.S := (loops_extn (loops_none _) Tryd.func36 eachLine.tab)
noncomputable def fault_Line.t (x : ErrD) : T (Int) := T.opt (eachLine.l0 ((0 : Int), x, (0 : Int), ())) fun y => T.ite (exEq y.1 (Ex.exit (0 : Nat))) (T.ret y.2.1) T.fail
noncomputable def fault_Line (x : ErrD) : Option (Int) := (fault_Line.t x).run
noncomputable def fault_Line.q : List AV → T AV := entry [TE] (outR [TI]) fun x => .opt (fault_Line x) .ret
theorem fault_Line.ok : FnOK Tryd.prog 11 fault_Line.q :=
  entry_call (ps := [TE]) (rs := [TI]) (F := (dp Tryd.prog Xs fault_Line.deeps 100 8)) (D := (inL fault_Line.deeps.D)) (S := tabS []) (t := fault_Line.t) mixed (dp_ok mixed Xok fault_Line.deepsOk 100 8).1 (dp_ok mixed Xok fault_Line.deepsOk 100 8).2 Tryd.func11 (by kernel_rfl) (sok_fn trivial) (by kernel_rfl) (fun x => by kernel_rfl)
end Go.Proofs.Pen

namespace Go.Proofs.Pen
open Go Go.Proofs
noncomputable def eachDepth.deeps : Deeps := { D := [38], C := [], frz := false, S := fun _ _ => noS }
theorem eachDepth.deepsOk : LoopsOK Tryd.prog eachDepth.deeps.S := (loops_none _)
def eachDepth.L0 : List (Nat × Lay) := [(9000, .blk 0 TI), (0, .val TE), (1, .clo 38 [0]), (4, .val TI)]
noncomputable def eachDepth.t0 (x : Int × ErrD × Int × Unit) : T (Ex × Int × ErrD × Int × Unit) := T.ite (!ErrD.isNil x.2.1 && decide (x.2.2.1 < (64 : Int))) (T.opt (errors_Unwrap x.2.1) fun y => T.ret (Ex.normal, W (x.1 + (1 : Int)), y, W (x.2.2.1 + (1 : Int)), ())) (T.ret (Ex.exit (0 : Nat), x.1, x.2.1, x.2.2.1, ()))
noncomputable def eachDepth.l0 (x : Int × ErrD × Int × Unit) : Option (Ex × Int × ErrD × Int × Unit) := (iterT eachDepth.t0 rounds x).run
theorem eachDepth.k0 : bodies 0 (lp Tryd.f36 []) = [.loop (loopIn 0 (lp Tryd.f36 []))] ∧ WP Tryd.prog 1 (.block 0 (.loop (loopIn 0 (lp Tryd.f36 [])))) (loopS eachDepth.L0 18 0 [.exit 0] eachDepth.l0) :=
  loop_treeN 1 (L := eachDepth.L0) (F := (dp Tryd.prog (ext Xs 71 errors_Unwrap.q) eachDepth.deeps 100 8)) (D := (inL eachDepth.deeps.D)) (tab := []) (t := eachDepth.t0) mixed (dp_ok mixed (quiet_ext Xok errors_Unwrap.ok) eachDepth.deepsOk 100 8).1 (dp_ok mixed (quiet_ext Xok errors_Unwrap.ok) eachDepth.deepsOk 100 8).2 (fun _ => rfl) (by kernel_rfl) (by kernel_rfl) trivial (fun x => by kernel_rfl)
noncomputable def eachDepth.S : List (Nat × (St → T (Ex × St))) := [(0, loopS eachDepth.L0 18 0 [.exit 0] eachDepth.l0)]
theorem eachDepth.tab : TabOK Tryd.prog 1 (codeOf Tryd.f36) eachDepth.S := ⟨eachDepth.k0, trivial⟩
end Go.Proofs.Pen

namespace Go.Proofs.Pen
open Go Go.Proofs
noncomputable def fault_Depth.deeps : Deeps := { D := [36, 38], C := [], frz := false, S := extSn (fun _ _ => noS) 36 1 (tabS eachDepth.S) }
theorem fault_Depth.deepsOk : LoopsOK Tryd.prog fault_Depth.deeps.S := (loops_extn (loops_none _) Tryd.func36 eachDepth.tab)
noncomputable def fault_Depth.t (x : ErrD) : T (Int) := T.opt (eachDepth.l0 ((0 : Int), x, (0 : Int), ())) fun y => T.ite (exEq y.1 (Ex.exit (0 : Nat))) (T.ret y.2.1) T.fail
noncomputable def fault_Depth (x : ErrD) : Option (Int) := (fault_Depth.t x).run
noncomputable def fault_Depth.q : List AV → T AV := entry [TE] (outR [TI]) fun x => .opt (fault_Depth x) .ret
theorem fault_Depth.ok : FnOK Tryd.prog 12 fault_Depth.q :=
  entry_call (ps := [TE]) (rs := [TI]) (F := (dp Tryd.prog Xs fault_Depth.deeps 100 8)) (D := (inL fault_Depth.deeps.D)) (S := tabS []) (t := fault_Depth.t) mixed (dp_ok mixed Xok fault_Depth.deepsOk 100 8).1 (dp_ok mixed Xok fault_Depth.deepsOk 100 8).2 Tryd.func12 (by kernel_rfl) (sok_fn trivial) (by kernel_rfl) (fun x => by kernel_rfl)
end Go.Proofs.Pen

namespace Go.Proofs.Pen
open Go Go.Proofs
noncomputable def fault_Fault_Is.t (x : (Int × Int × ErrD) × Int) : T (Bool) := T.ret (x.2 == x.1.1)
noncomputable def fault_Fault_Is.q : List AV → T AV := entry [TF, (.ifi 23 .i64)] (outR [.bool]) fault_Fault_Is.t
theorem fault_Fault_Is.ok : FnOK Tryd.prog 22 fault_Fault_Is.q :=
  entry_in (ps := [TF, (.ifi 23 .i64)]) (rs := [.bool]) (F := ({ quiet := Xs, deep := noDeep } : Fns)) (D := D0) (S := tabS []) (t := fault_Fault_Is.t) mixed Xok (deep_none _) Tryd.func22 (by kernel_rfl) (sok_fn trivial) (by kernel_rfl) (fun x => by kernel_rfl)
end Go.Proofs.Pen

namespace Go.Proofs.Pen
open Go Go.Proofs
def errors_is.L3 : List (Nat × Lay) := [(1, .val (.ifi 23 .i64)), (2, .val .bool), (6, .val .bool), (43, .val .bool), (44, .val TI), (45, .val TI)]
noncomputable def errors_is.t3 (x : Int × Bool × Bool × Bool × Int × Int × Unit) : T (Ex × Int × Bool × Bool × Bool × Int × Int × Unit) := T.ite (decide (x.2.2.2.2.2.1 < x.2.2.2.2.1)) T.fail (T.ret (Ex.exit (3 : Nat), x.1, x.2.1, x.2.2.1, x.2.2.2.1, x.2.2.2.2.1, x.2.2.2.2.2.1, ()))
noncomputable def errors_is.l3 (x : Int × Bool × Bool × Bool × Int × Int × Unit) : Option (Ex × Int × Bool × Bool × Bool × Int × Int × Unit) := (iterT errors_is.t3 rounds x).run
theorem errors_is.k3 : bodies 3 (lp Tryd.f73 [0]) = [.loop (loopIn 3 (lp Tryd.f73 [0]))] ∧ WP Tryd.prog 0 (.block 3 (.loop (loopIn 3 (lp Tryd.f73 [0])))) (loopS errors_is.L3 54 3 [.exit 3, .ret] errors_is.l3) :=
  loop_tree (L := errors_is.L3) (F := ({ quiet := (ext (ext Xs 21 fault_Fault_Unwrap.q) 22 fault_Fault_Is.q), deep := noDeep } : Fns)) (D := D0) (tab := []) (t := errors_is.t3) mixed (quiet_ext (quiet_ext Xok fault_Fault_Unwrap.ok) fault_Fault_Is.ok) (deep_none _) (fun _ => rfl) (by kernel_rfl) (by kernel_rfl) trivial (fun x => by kernel_rfl)
def errors_is.L0 : List (Nat × Lay) := [(0, .val TE), (1, .val (.ifi 23 .i64)), (2, .val .bool), (6, .val .bool)]
noncomputable def errors_is.t0 (x : ErrD × Int × Bool × Bool × Unit) : T (Ex × ErrD × Int × Bool × Bool × Unit) := T.ite (x.2.2.1 && ErrD.isThe x.2.1 x.1) (T.ret (Ex.ret, x.1, x.2.1, x.2.2.1, true, ())) (T.ite (ErrD.isFault x.1) (T.ite (ErrD.onlyF x.1).isFault (T.ite (x.2.1 == (ErrD.onlyF x.1).faultC) (T.ret (Ex.ret, x.1, x.2.1, x.2.2.1, true, ())) (T.ite (ErrD.isFault x.1) (T.ite (ErrD.onlyF x.1).isFault (T.ite (ErrD.onlyF x.1).faultE.isNil (T.ret (Ex.ret, (ErrD.onlyF x.1).faultE, x.2.1, x.2.2.1, false, ())) (T.ret (Ex.normal, (ErrD.onlyF x.1).faultE, x.2.1, x.2.2.1, x.2.2.2.1, ()))) (T.ite (ErrD.onlyF x.1).isCode T.fail T.fail)) (T.ret (Ex.ret, x.1, x.2.1, x.2.2.1, false, ())))) (T.ite (ErrD.onlyF x.1).isCode T.fail T.fail)) (T.ite (ErrD.isFault x.1) (T.ite (ErrD.onlyF x.1).isFault (T.ite (ErrD.onlyF x.1).faultE.isNil (T.ret (Ex.ret, (ErrD.onlyF x.1).faultE, x.2.1, x.2.2.1, false, ())) (T.ret (Ex.normal, (ErrD.onlyF x.1).faultE, x.2.1, x.2.2.1, x.2.2.2.1, ()))) (T.ite (ErrD.onlyF x.1).isCode T.fail T.fail)) (T.ret (Ex.ret, x.1, x.2.1, x.2.2.1, false, ()))))
noncomputable def errors_is.l0 (x : ErrD × Int × Bool × Bool × Unit) : Option (Ex × ErrD × Int × Bool × Bool × Unit) := (iterT errors_is.t0 rounds x).run
theorem errors_is.k0 : bodies 0 (lp Tryd.f73 []) = [.loop (loopIn 0 (lp Tryd.f73 []))] ∧ WP Tryd.prog 0 (.block 0 (.loop (loopIn 0 (lp Tryd.f73 [])))) (loopS errors_is.L0 54 0 [.ret] errors_is.l0) :=
  loop_tree (L := errors_is.L0) (F := ({ quiet := (ext (ext Xs 21 fault_Fault_Unwrap.q) 22 fault_Fault_Is.q), deep := noDeep } : Fns)) (D := D0) (tab := [(3, loopS errors_is.L3 54 3 [.exit 3, .ret] errors_is.l3)]) (t := errors_is.t0) mixed (quiet_ext (quiet_ext Xok fault_Fault_Unwrap.ok) fault_Fault_Is.ok) (deep_none _) (fun _ => rfl) (by kernel_rfl) (by kernel_rfl) ⟨errors_is.k3, trivial⟩ (fun x => by kernel_rfl)
noncomputable def errors_is.t (x : ErrD × Int × Bool) : T (Bool) := T.opt (errors_is.l0 (x.1, x.2.1, x.2.2, false, ())) fun y => T.ite (exEq y.1 Ex.ret) (T.ret y.2.2.2.2.1) T.fail
noncomputable def errors_is (x : ErrD × Int × Bool) : Option (Bool) := (errors_is.t x).run
noncomputable def errors_is.q : List AV → T AV := entry [TE, (.ifi 23 .i64), .bool] (outR [.bool]) fun x => .opt (errors_is x) .ret
theorem errors_is.ok : FnOK Tryd.prog 73 errors_is.q :=
  entry_call (ps := [TE, (.ifi 23 .i64), .bool]) (rs := [.bool]) (F := ({ quiet := (ext (ext Xs 21 fault_Fault_Unwrap.q) 22 fault_Fault_Is.q), deep := noDeep } : Fns)) (D := D0) (S := tabS [(0, loopS errors_is.L0 54 0 [.ret] errors_is.l0)]) (t := errors_is.t) mixed (quiet_ext (quiet_ext Xok fault_Fault_Unwrap.ok) fault_Fault_Is.ok) (deep_none _) Tryd.func73 (by kernel_rfl) (sok_fn ⟨errors_is.k0, trivial⟩) (by kernel_rfl) (fun x => by kernel_rfl)
end Go.Proofs.Pen

namespace Go.Proofs.Pen
open Go Go.Proofs
noncomputable def errors_Is.t (x : ErrD × Int) : T (Bool) := T.ite (ErrD.isNil x.1 || false) (T.ret (ErrD.isThe x.2 x.1)) (T.opt (errors_is (x.1, x.2, true)) fun y => T.ret y)
noncomputable def errors_Is (x : ErrD × Int) : Option (Bool) := (errors_Is.t x).run
noncomputable def errors_Is.q : List AV → T AV := entry [TE, (.ifi 23 .i64)] (outR [.bool]) fun x => .opt (errors_Is x) .ret
theorem errors_Is.ok : FnOK Tryd.prog 39 errors_Is.q :=
  entry_call (ps := [TE, (.ifi 23 .i64)]) (rs := [.bool]) (F := ({ quiet := (ext Xs 73 errors_is.q), deep := noDeep } : Fns)) (D := D0) (S := tabS []) (t := errors_Is.t) mixed (quiet_ext Xok errors_is.ok) (deep_none _) Tryd.func39 (by kernel_rfl) (sok_fn trivial) (by kernel_rfl) (fun x => by kernel_rfl)
end Go.Proofs.Pen

namespace Go.Proofs.Pen
open Go Go.Proofs
noncomputable def fault_Is.t (x : ErrD × Int) : T (Bool) := T.ite (!ErrD.isNil x.1) (T.opt (errors_Is x) fun y => T.ret y) (T.ret false)
noncomputable def fault_Is (x : ErrD × Int) : Option (Bool) := (fault_Is.t x).run
noncomputable def fault_Is.q : List AV → T AV := entry [TE, TI] (outR [.bool]) fun x => .opt (fault_Is x) .ret
theorem fault_Is.ok : FnOK Tryd.prog 13 fault_Is.q :=
  entry_call (ps := [TE, TI]) (rs := [.bool]) (F := ({ quiet := (ext Xs 39 errors_Is.q), deep := noDeep } : Fns)) (D := D0) (S := tabS []) (t := fault_Is.t) mixed (quiet_ext Xok errors_Is.ok) (deep_none _) Tryd.func13 (by kernel_rfl) (sok_fn trivial) (by kernel_rfl) (fun x => by kernel_rfl)
end Go.Proofs.Pen

namespace Go.Proofs.Pen
open Go Go.Proofs
def ref01_Has.L0 : List (Nat × Lay) := [(0, .val (.sl (.st (.pair TI TI)))), (1, .val TI), (4, .val .bool), (5, .val TI)]
noncomputable def ref01_Has.t0 (x : (List (Int × Int)) × Int × Bool × Int × Unit) : T (Ex × (List (Int × Int)) × Int × Bool × Int × Unit) := T.ite (decide (x.2.2.2.1 < (↑(List.length x.1) : Int))) (T.opt (lget x.1 x.2.2.2.1) fun y => T.ite (y.1 == x.2.1) (T.ret (Ex.ret, x.1, x.2.1, true, x.2.2.2.1, ())) (T.ret (Ex.normal, x.1, x.2.1, x.2.2.1, W (x.2.2.2.1 + (1 : Int)), ()))) (T.ret (Ex.exit (0 : Nat), x.1, x.2.1, x.2.2.1, x.2.2.2.1, ()))
noncomputable def ref01_Has.l0 (x : (List (Int × Int)) × Int × Bool × Int × Unit) : Option (Ex × (List (Int × Int)) × Int × Bool × Int × Unit) := (iterT ref01_Has.t0 rounds x).run
theorem ref01_Has.k0 : bodies 0 (lp Tryd.f14 []) = [.loop (loopIn 0 (lp Tryd.f14 []))] ∧ WP Tryd.prog 0 (.block 0 (.loop (loopIn 0 (lp Tryd.f14 [])))) (loopS ref01_Has.L0 19 0 [.exit 0, .ret] ref01_Has.l0) :=
  loop_tree (L := ref01_Has.L0) (F := ({ quiet := Xs, deep := noDeep } : Fns)) (D := D0) (tab := []) (t := ref01_Has.t0) mixed Xok (deep_none _) (fun _ => rfl) (by kernel_rfl) (by kernel_rfl) trivial (fun x => by kernel_rfl)
noncomputable def ref01_Has.t (x : (List (Int × Int)) × Int) : T (Bool) := T.opt (ref01_Has.l0 (x.1, x.2, false, (0 : Int), ())) fun y => T.ite (exEq y.1 (Ex.exit (0 : Nat))) (T.ret false) (T.ite (exEq y.1 Ex.ret) (T.ret y.2.2.2.1) T.fail)
noncomputable def ref01_Has (x : (List (Int × Int)) × Int) : Option (Bool) := (ref01_Has.t x).run
noncomputable def ref01_Has.q : List AV → T AV := entry [(.sl (.st (.pair TI TI))), TI] (outR [.bool]) fun x => .opt (ref01_Has x) .ret
theorem ref01_Has.ok : FnOK Tryd.prog 14 ref01_Has.q :=
  entry_call (ps := [(.sl (.st (.pair TI TI))), TI]) (rs := [.bool]) (F := ({ quiet := Xs, deep := noDeep } : Fns)) (D := D0) (S := tabS [(0, loopS ref01_Has.L0 19 0 [.exit 0, .ret] ref01_Has.l0)]) (t := ref01_Has.t) mixed Xok (deep_none _) Tryd.func14 (by kernel_rfl) (sok_fn ⟨ref01_Has.k0, trivial⟩) (by kernel_rfl) (fun x => by kernel_rfl)
end Go.Proofs.Pen

namespace Go.Proofs.Pen
open Go Go.Proofs
def ref01_Line.L0 : List (Nat × Lay) := [(0, .val (.sl (.st (.pair TI TI)))), (2, .val TI), (3, .val TI)]
noncomputable def ref01_Line.t0 (x : (List (Int × Int)) × Int × Int × Unit) : T (Ex × (List (Int × Int)) × Int × Int × Unit) := T.ite (decide (x.2.2.1 ≥ (0 : Int))) (T.opt (lget x.1 x.2.2.1) fun y => T.ite (y.2 != (0 : Int)) (T.opt (lget x.1 x.2.2.1) fun y => T.ret (Ex.ret, x.1, y.2, x.2.2.1, ())) (T.ret (Ex.normal, x.1, x.2.1, W (x.2.2.1 - (1 : Int)), ()))) (T.ret (Ex.exit (0 : Nat), x.1, x.2.1, x.2.2.1, ()))
noncomputable def ref01_Line.l0 (x : (List (Int × Int)) × Int × Int × Unit) : Option (Ex × (List (Int × Int)) × Int × Int × Unit) := (iterT ref01_Line.t0 rounds x).run
theorem ref01_Line.k0 : bodies 0 (lp Tryd.f15 []) = [.loop (loopIn 0 (lp Tryd.f15 []))] ∧ WP Tryd.prog 0 (.block 0 (.loop (loopIn 0 (lp Tryd.f15 [])))) (loopS ref01_Line.L0 22 0 [.exit 0, .ret] ref01_Line.l0) :=
  loop_tree (L := ref01_Line.L0) (F := ({ quiet := Xs, deep := noDeep } : Fns)) (D := D0) (tab := []) (t := ref01_Line.t0) mixed Xok (deep_none _) (fun _ => rfl) (by kernel_rfl) (by kernel_rfl) trivial (fun x => by kernel_rfl)
noncomputable def ref01_Line.t (x : (List (Int × Int))) : T (Int) := T.opt (ref01_Line.l0 (x, (0 : Int), W ((↑(List.length x) : Int) - (1 : Int)), ())) fun y => T.ite (exEq y.1 (Ex.exit (0 : Nat))) (T.ret (0 : Int)) (T.ite (exEq y.1 Ex.ret) (T.ret y.2.2.1) T.fail)
noncomputable def ref01_Line (x : (List (Int × Int))) : Option (Int) := (ref01_Line.t x).run
noncomputable def ref01_Line.q : List AV → T AV := entry [(.sl (.st (.pair TI TI)))] (outR [TI]) fun x => .opt (ref01_Line x) .ret
theorem ref01_Line.ok : FnOK Tryd.prog 15 ref01_Line.q :=
  entry_call (ps := [(.sl (.st (.pair TI TI)))]) (rs := [TI]) (F := ({ quiet := Xs, deep := noDeep } : Fns)) (D := D0) (S := tabS [(0, loopS ref01_Line.L0 22 0 [.exit 0, .ret] ref01_Line.l0)]) (t := ref01_Line.t) mixed Xok (deep_none _) Tryd.func15 (by kernel_rfl) (sok_fn ⟨ref01_Line.k0, trivial⟩) (by kernel_rfl) (fun x => by kernel_rfl)
end Go.Proofs.Pen

namespace Go.Proofs.Pen
open Go Go.Proofs
noncomputable def law01_FaultFinds.t (x : (List (Int × Int)) × Int) : T (Bool) := T.opt (law01_chain x.1) fun y => T.ite (ErrD.isNil y.1) (T.ite ((↑(List.length y.2) : Int) == (0 : Int)) (T.ite (ErrD.top y.1 == (0 : Int)) (T.opt (fault_Line y.1) fun y_1 => T.ite (y_1 == (0 : Int)) (T.opt (fault_Depth y.1) fun y_2 => T.ite (y_2 == (0 : Int)) (T.opt (fault_Is (y.1, x.2)) fun y => T.ret !y) (T.ret false)) (T.ret false)) (T.ret false)) (T.ret false)) (T.ite true (T.opt (fault_Is (y.1, x.2)) fun y_1 => T.opt (ref01_Has (y.2, x.2)) fun y_2 => T.ite (y_1 == y_2) (T.opt (lget y.2 (W ((↑(List.length y.2) : Int) - (1 : Int)))) fun y_3 => T.ite (ErrD.top y.1 == y_3.fst) (T.opt (fault_Line y.1) fun y_4 => T.opt (ref01_Line y.2) fun y_5 => T.ite (y_4 == y_5) (T.opt (fault_Depth y.1) fun y_6 => T.ret (y_6 == (↑(List.length y.2) : Int))) (T.ret false)) (T.ret false)) (T.ret false)) (T.ret false))
noncomputable def law01_FaultFinds (x : (List (Int × Int)) × Int) : Option (Bool) := (law01_FaultFinds.t x).run
noncomputable def law01_FaultFinds.q : List AV → T AV := entry [(.sl (.st (.pair TI TI))), TI] (outR [.bool]) fun x => .opt (law01_FaultFinds x) .ret
theorem law01_FaultFinds.ok : FnOK Tryd.prog 3 law01_FaultFinds.q :=
  entry_call (ps := [(.sl (.st (.pair TI TI))), TI]) (rs := [.bool]) (F := ({ quiet := (ext (ext (ext (ext (ext (ext (ext Xs 8 law01_chain.q) 9 law01_awake.q) 11 fault_Line.q) 12 fault_Depth.q) 13 fault_Is.q) 14 ref01_Has.q) 15 ref01_Line.q), deep := noDeep } : Fns)) (D := D0) (S := tabS []) (t := law01_FaultFinds.t) mixed (quiet_ext (quiet_ext (quiet_ext (quiet_ext (quiet_ext (quiet_ext (quiet_ext Xok law01_chain.ok) law01_awake.ok) fault_Line.ok) fault_Depth.ok) fault_Is.ok) ref01_Has.ok) ref01_Line.ok) (deep_none _) Tryd.func3 (by kernel_rfl) (sok_fn trivial) (by kernel_rfl) (fun x => by kernel_rfl)
end Go.Proofs.Pen

namespace Go.Proofs.Pen
open Go Go.Proofs
noncomputable def eachChain.deeps : Deeps := { D := [40], C := [], frz := false, S := fun _ _ => noS }
theorem eachChain.deepsOk : LoopsOK Tryd.prog eachChain.deeps.S := (loops_none _)
def eachChain.L0 : List (Nat × Lay) := [(9000, .oblk 0 [.own TI]), (0, .val TE), (1, .clo 40 [0]), (4, .val TI)]
noncomputable def eachChain.t0 (x : (List Int × Unit) × ErrD × Int × Unit) : T (Ex × (List Int × Unit) × ErrD × Int × Unit) := T.ite (!ErrD.isNil x.2.1 && decide (x.2.2.1 < (64 : Int))) (T.ite (ErrD.isFault x.2.1) (T.ite (decide ((x.1.1.length + (1 : Nat)) * nat_lit 8 ≤ most)) (T.opt (errors_Unwrap x.2.1) fun y => T.ret (Ex.normal, (List.take (x.1.1.length + (1 : Nat)) (List.take x.1.1.length x.1.1 ++ [ErrD.faultC x.2.1]), ()), y, W (x.2.2.1 + (1 : Int)), ())) T.fail) (T.ite (ErrD.isCode x.2.1) (T.ite (decide ((x.1.1.length + (1 : Nat)) * nat_lit 8 ≤ most)) (T.opt (errors_Unwrap x.2.1) fun y => T.ret (Ex.normal, (List.take (x.1.1.length + (1 : Nat)) (List.take x.1.1.length x.1.1 ++ [ErrD.codeOf x.2.1]), ()), y, W (x.2.2.1 + (1 : Int)), ())) T.fail) (T.opt (errors_Unwrap x.2.1) fun y => T.ret (Ex.normal, (List.take x.1.1.length x.1.1, ()), y, W (x.2.2.1 + (1 : Int)), ())))) (T.ret (Ex.exit (0 : Nat), (List.take x.1.1.length x.1.1, ()), x.2.1, x.2.2.1, ()))
noncomputable def eachChain.l0 (x : (List Int × Unit) × ErrD × Int × Unit) : Option (Ex × (List Int × Unit) × ErrD × Int × Unit) := (iterT eachChain.t0 rounds x).run
theorem eachChain.k0 : bodies 0 (lp Tryd.f36 []) = [.loop (loopIn 0 (lp Tryd.f36 []))] ∧ WP Tryd.prog 1 (.block 0 (.loop (loopIn 0 (lp Tryd.f36 [])))) (loopS eachChain.L0 18 0 [.exit 0] eachChain.l0) :=
  loop_treeN 1 (L := eachChain.L0) (F := (dp Tryd.prog (ext Xs 71 errors_Unwrap.q) eachChain.deeps 100 8)) (D := (inL eachChain.deeps.D)) (tab := []) (t := eachChain.t0) mixed (dp_ok mixed (quiet_ext Xok errors_Unwrap.ok) eachChain.deepsOk 100 8).1 (dp_ok mixed (quiet_ext Xok errors_Unwrap.ok) eachChain.deepsOk 100 8).2 (fun _ => rfl) (by kernel_rfl) (by kernel_rfl) trivial (fun x => by kernel_rfl)
noncomputable def eachChain.S : List (Nat × (St → T (Ex × St))) := [(0, loopS eachChain.L0 18 0 [.exit 0] eachChain.l0)]
theorem eachChain.tab : TabOK Tryd.prog 1 (codeOf Tryd.f36) eachChain.S := ⟨eachChain.k0, trivial⟩
end Go.Proofs.Pen

namespace Go.Proofs.Pen
open Go Go.Proofs
noncomputable def fault_Chain.deeps : Deeps := { D := [36, 40], C := [], frz := false, S := extSn (fun _ _ => noS) 36 1 (tabS eachChain.S) }
theorem fault_Chain.deepsOk : LoopsOK Tryd.prog fault_Chain.deeps.S := (loops_extn (loops_none _) Tryd.func36 eachChain.tab)
noncomputable def fault_Chain.t (x : ErrD) : T ((List (Int))) := T.opt (eachChain.l0 (([], ()), x, (0 : Int), ())) fun y => T.ite (exEq y.1 (Ex.exit (0 : Nat))) (T.ret (List.take y.2.1.1.length y.2.1.1)) T.fail
noncomputable def fault_Chain (x : ErrD) : Option ((List (Int))) := (fault_Chain.t x).run
noncomputable def fault_Chain.q : List AV → T AV := entry [TE] (outR [(.sl TI)]) fun x => .opt (fault_Chain x) .ret
theorem fault_Chain.ok : FnOK Tryd.prog 17 fault_Chain.q :=
  entry_call (ps := [TE]) (rs := [(.sl TI)]) (F := (dp Tryd.prog Xs fault_Chain.deeps 100 8)) (D := (inL fault_Chain.deeps.D)) (S := tabS []) (t := fault_Chain.t) mixed (dp_ok mixed Xok fault_Chain.deepsOk 100 8).1 (dp_ok mixed Xok fault_Chain.deepsOk 100 8).2 Tryd.func17 (by kernel_rfl) (sok_fn trivial) (by kernel_rfl) (fun x => by kernel_rfl)
end Go.Proofs.Pen

namespace Go.Proofs.Pen
open Go Go.Proofs
def ref01_Errs.L0 : List (Nat × Lay) := [(0, .val (.sl TI)), (1, .val (.sl TI)), (4, .val .bool), (5, .val TI)]
noncomputable def ref01_Errs.t0 (x : (List (Int)) × (List (Int)) × Bool × Int × Unit) : T (Ex × (List (Int)) × (List (Int)) × Bool × Int × Unit) := T.ite (decide (x.2.2.2.1 < (↑(List.length x.1) : Int))) (T.opt (lget x.1 x.2.2.2.1) fun y => T.opt (lget x.2.1 x.2.2.2.1) fun y_1 => T.ite (y != y_1) (T.ret (Ex.ret, x.1, x.2.1, false, x.2.2.2.1, ())) (T.ret (Ex.normal, x.1, x.2.1, x.2.2.1, W (x.2.2.2.1 + (1 : Int)), ()))) (T.ret (Ex.exit (0 : Nat), x.1, x.2.1, x.2.2.1, x.2.2.2.1, ()))
noncomputable def ref01_Errs.l0 (x : (List (Int)) × (List (Int)) × Bool × Int × Unit) : Option (Ex × (List (Int)) × (List (Int)) × Bool × Int × Unit) := (iterT ref01_Errs.t0 rounds x).run
theorem ref01_Errs.k0 : bodies 0 (lp Tryd.f16 []) = [.loop (loopIn 0 (lp Tryd.f16 []))] ∧ WP Tryd.prog 0 (.block 0 (.loop (loopIn 0 (lp Tryd.f16 [])))) (loopS ref01_Errs.L0 26 0 [.exit 0, .ret] ref01_Errs.l0) :=
  loop_tree (L := ref01_Errs.L0) (F := ({ quiet := Xs, deep := noDeep } : Fns)) (D := D0) (tab := []) (t := ref01_Errs.t0) mixed Xok (deep_none _) (fun _ => rfl) (by kernel_rfl) (by kernel_rfl) trivial (fun x => by kernel_rfl)
noncomputable def ref01_Errs.t (x : (List (Int)) × (List (Int))) : T (Bool) := T.ite ((↑(List.length x.1) : Int) != (↑(List.length x.2) : Int)) (T.ret false) (T.opt (ref01_Errs.l0 (x.1, x.2, false, (0 : Int), ())) fun y => T.ite (exEq y.1 (Ex.exit (0 : Nat))) (T.ret true) (T.ite (exEq y.1 Ex.ret) (T.ret y.2.2.2.1) T.fail))
noncomputable def ref01_Errs (x : (List (Int)) × (List (Int))) : Option (Bool) := (ref01_Errs.t x).run
noncomputable def ref01_Errs.q : List AV → T AV := entry [(.sl TI), (.sl TI)] (outR [.bool]) fun x => .opt (ref01_Errs x) .ret
theorem ref01_Errs.ok : FnOK Tryd.prog 16 ref01_Errs.q :=
  entry_call (ps := [(.sl TI), (.sl TI)]) (rs := [.bool]) (F := ({ quiet := Xs, deep := noDeep } : Fns)) (D := D0) (S := tabS [(0, loopS ref01_Errs.L0 26 0 [.exit 0, .ret] ref01_Errs.l0)]) (t := ref01_Errs.t) mixed Xok (deep_none _) Tryd.func16 (by kernel_rfl) (sok_fn ⟨ref01_Errs.k0, trivial⟩) (by kernel_rfl) (fun x => by kernel_rfl)
end Go.Proofs.Pen

namespace Go.Proofs.Pen
open Go Go.Proofs
def law01_FaultChains.L0 : List (Nat × Lay) := [(3, .val TE), (4, .val (.sl (.st (.pair TI TI)))), (5, .row TI), (6, .val TI)]
noncomputable def law01_FaultChains.t0 (x : ErrD × (List (Int × Int)) × List Int × Int × Unit) : T (Ex × ErrD × (List (Int × Int)) × List Int × Int × Unit) := T.ite (decide (x.2.2.2.1 ≥ (0 : Int))) (T.opt (lget x.2.1 x.2.2.2.1) fun y => T.ite (decide ((x.2.2.1.length + (1 : Nat)) * nat_lit 8 ≤ most)) (T.ret (Ex.normal, x.1, x.2.1, List.take (x.2.2.1.length + (1 : Nat)) (List.take x.2.2.1.length x.2.2.1 ++ [y.1]), W (x.2.2.2.1 - (1 : Int)), ())) T.fail) (T.ret (Ex.exit (0 : Nat), x.1, x.2.1, List.take x.2.2.1.length x.2.2.1, x.2.2.2.1, ()))
noncomputable def law01_FaultChains.l0 (x : ErrD × (List (Int × Int)) × List Int × Int × Unit) : Option (Ex × ErrD × (List (Int × Int)) × List Int × Int × Unit) := (iterT law01_FaultChains.t0 rounds x).run
theorem law01_FaultChains.k0 : bodies 0 (lp Tryd.f4 []) = [.loop (loopIn 0 (lp Tryd.f4 []))] ∧ WP Tryd.prog 0 (.block 0 (.loop (loopIn 0 (lp Tryd.f4 [])))) (loopS law01_FaultChains.L0 34 0 [.exit 0] law01_FaultChains.l0) :=
  loop_tree (L := law01_FaultChains.L0) (F := ({ quiet := (ext (ext (ext (ext Xs 8 law01_chain.q) 9 law01_awake.q) 17 fault_Chain.q) 16 ref01_Errs.q), deep := noDeep } : Fns)) (D := D0) (tab := []) (t := law01_FaultChains.t0) mixed (quiet_ext (quiet_ext (quiet_ext (quiet_ext Xok law01_chain.ok) law01_awake.ok) fault_Chain.ok) ref01_Errs.ok) (deep_none _) (fun _ => rfl) (by kernel_rfl) (by kernel_rfl) trivial (fun x => by kernel_rfl)
noncomputable def law01_FaultChains.t (x : (List (Int × Int))) : T (Bool) := T.opt (law01_chain x) fun y => T.opt (law01_FaultChains.l0 (y.1, y.2, [], W ((↑(List.length y.2) : Int) - (1 : Int)), ())) fun y => T.ite (exEq y.1 (Ex.exit (0 : Nat))) (T.ite true (T.opt (fault_Chain y.2.1) fun y_1 => T.opt (ref01_Errs (y_1, List.take y.2.2.2.1.length y.2.2.2.1)) fun y => T.ret y) (T.ret false)) T.fail
noncomputable def law01_FaultChains (x : (List (Int × Int))) : Option (Bool) := (law01_FaultChains.t x).run
noncomputable def law01_FaultChains.q : List AV → T AV := entry [(.sl (.st (.pair TI TI)))] (outR [.bool]) fun x => .opt (law01_FaultChains x) .ret
theorem law01_FaultChains.ok : FnOK Tryd.prog 4 law01_FaultChains.q :=
  entry_call (ps := [(.sl (.st (.pair TI TI)))]) (rs := [.bool]) (F := ({ quiet := (ext (ext (ext (ext Xs 8 law01_chain.q) 9 law01_awake.q) 17 fault_Chain.q) 16 ref01_Errs.q), deep := noDeep } : Fns)) (D := D0) (S := tabS [(0, loopS law01_FaultChains.L0 34 0 [.exit 0] law01_FaultChains.l0)]) (t := law01_FaultChains.t) mixed (quiet_ext (quiet_ext (quiet_ext (quiet_ext Xok law01_chain.ok) law01_awake.ok) fault_Chain.ok) ref01_Errs.ok) (deep_none _) Tryd.func4 (by kernel_rfl) (sok_fn ⟨law01_FaultChains.k0, trivial⟩) (by kernel_rfl) (fun x => by kernel_rfl)
end Go.Proofs.Pen

namespace Go.Proofs.Pen
open Go Go.Proofs
noncomputable def num0.t (x : Int) : T (ByteArray) := T.ite (decide (x < (0 : Int)) || decide (x > (9999 : Int))) (T.ret (ByteArray.mk #[(63 : UInt8)])) (T.ite (decide (x < (10 : Int))) (T.ret (ofBytes [IntKind.u8.wrap (W ((48 : Int) + x))])) T.fail)
noncomputable def num0 (x : Int) : Option (ByteArray) := (num0.t x).run
noncomputable def num0.q : List AV → T AV := entry [TI] (outR [.str]) fun x => .opt (num0 x) .ret
theorem num0.ok : FnOK Tryd.prog 74 num0.q :=
  entry_call (ps := [TI]) (rs := [.str]) (F := ({ quiet := Xs, deep := noDeep } : Fns)) (D := D0) (S := tabS []) (t := num0.t) mixed Xok (deep_none _) Tryd.func74 (by kernel_rfl) (sok_fn trivial) (by kernel_rfl) (fun x => by kernel_rfl)
end Go.Proofs.Pen

namespace Go.Proofs.Pen
open Go Go.Proofs
noncomputable def num1.t (x : Int) : T (ByteArray) := T.ite (decide (x < (0 : Int)) || decide (x > (9999 : Int))) (T.ret (ByteArray.mk #[(63 : UInt8)])) (T.ite (decide (x < (10 : Int))) (T.ret (ofBytes [IntKind.u8.wrap (W ((48 : Int) + x))])) (T.opt (num0 (W (Int.tdiv x (10 : Int)))) fun y => T.ite (decide ((↑(y.size + (ofBytes [IntKind.u8.wrap (W ((48 : Int) + Int.tmod x (10 : Int)))]).size) : Int) > IntKind.i64.max)) T.fail (T.ret (y ++ ofBytes [IntKind.u8.wrap (W ((48 : Int) + Int.tmod x (10 : Int)))]))))
noncomputable def num1 (x : Int) : Option (ByteArray) := (num1.t x).run
noncomputable def num1.q : List AV → T AV := entry [TI] (outR [.str]) fun x => .opt (num1 x) .ret
theorem num1.ok : FnOK Tryd.prog 74 num1.q :=
  entry_call (ps := [TI]) (rs := [.str]) (F := ({ quiet := (ext Xs 74 num0.q), deep := noDeep } : Fns)) (D := D0) (S := tabS []) (t := num1.t) mixed (quiet_ext Xok num0.ok) (deep_none _) Tryd.func74 (by kernel_rfl) (sok_fn trivial) (by kernel_rfl) (fun x => by kernel_rfl)
end Go.Proofs.Pen

namespace Go.Proofs.Pen
open Go Go.Proofs
noncomputable def num2.t (x : Int) : T (ByteArray) := T.ite (decide (x < (0 : Int)) || decide (x > (9999 : Int))) (T.ret (ByteArray.mk #[(63 : UInt8)])) (T.ite (decide (x < (10 : Int))) (T.ret (ofBytes [IntKind.u8.wrap (W ((48 : Int) + x))])) (T.opt (num1 (W (Int.tdiv x (10 : Int)))) fun y => T.ite (decide ((↑(y.size + (ofBytes [IntKind.u8.wrap (W ((48 : Int) + Int.tmod x (10 : Int)))]).size) : Int) > IntKind.i64.max)) T.fail (T.ret (y ++ ofBytes [IntKind.u8.wrap (W ((48 : Int) + Int.tmod x (10 : Int)))]))))
noncomputable def num2 (x : Int) : Option (ByteArray) := (num2.t x).run
noncomputable def num2.q : List AV → T AV := entry [TI] (outR [.str]) fun x => .opt (num2 x) .ret
theorem num2.ok : FnOK Tryd.prog 74 num2.q :=
  entry_call (ps := [TI]) (rs := [.str]) (F := ({ quiet := (ext Xs 74 num1.q), deep := noDeep } : Fns)) (D := D0) (S := tabS []) (t := num2.t) mixed (quiet_ext Xok num1.ok) (deep_none _) Tryd.func74 (by kernel_rfl) (sok_fn trivial) (by kernel_rfl) (fun x => by kernel_rfl)
end Go.Proofs.Pen

namespace Go.Proofs.Pen
open Go Go.Proofs
noncomputable def num3.t (x : Int) : T (ByteArray) := T.ite (decide (x < (0 : Int)) || decide (x > (9999 : Int))) (T.ret (ByteArray.mk #[(63 : UInt8)])) (T.ite (decide (x < (10 : Int))) (T.ret (ofBytes [IntKind.u8.wrap (W ((48 : Int) + x))])) (T.opt (num2 (W (Int.tdiv x (10 : Int)))) fun y => T.ite (decide ((↑(y.size + (ofBytes [IntKind.u8.wrap (W ((48 : Int) + Int.tmod x (10 : Int)))]).size) : Int) > IntKind.i64.max)) T.fail (T.ret (y ++ ofBytes [IntKind.u8.wrap (W ((48 : Int) + Int.tmod x (10 : Int)))]))))
noncomputable def num3 (x : Int) : Option (ByteArray) := (num3.t x).run
noncomputable def num3.q : List AV → T AV := entry [TI] (outR [.str]) fun x => .opt (num3 x) .ret
theorem num3.ok : FnOK Tryd.prog 74 num3.q :=
  entry_call (ps := [TI]) (rs := [.str]) (F := ({ quiet := (ext Xs 74 num2.q), deep := noDeep } : Fns)) (D := D0) (S := tabS []) (t := num3.t) mixed (quiet_ext Xok num2.ok) (deep_none _) Tryd.func74 (by kernel_rfl) (sok_fn trivial) (by kernel_rfl) (fun x => by kernel_rfl)
end Go.Proofs.Pen

namespace Go.Proofs.Pen
open Go Go.Proofs
noncomputable def num4.t (x : Int) : T (ByteArray) := T.ite (decide (x < (0 : Int)) || decide (x > (9999 : Int))) (T.ret (ByteArray.mk #[(63 : UInt8)])) (T.ite (decide (x < (10 : Int))) (T.ret (ofBytes [IntKind.u8.wrap (W ((48 : Int) + x))])) (T.opt (num3 (W (Int.tdiv x (10 : Int)))) fun y => T.ite (decide ((↑(y.size + (ofBytes [IntKind.u8.wrap (W ((48 : Int) + Int.tmod x (10 : Int)))]).size) : Int) > IntKind.i64.max)) T.fail (T.ret (y ++ ofBytes [IntKind.u8.wrap (W ((48 : Int) + Int.tmod x (10 : Int)))]))))
noncomputable def num4 (x : Int) : Option (ByteArray) := (num4.t x).run
noncomputable def num4.q : List AV → T AV := entry [TI] (outR [.str]) fun x => .opt (num4 x) .ret
theorem num4.ok : FnOK Tryd.prog 74 num4.q :=
  entry_call (ps := [TI]) (rs := [.str]) (F := ({ quiet := (ext Xs 74 num3.q), deep := noDeep } : Fns)) (D := D0) (S := tabS []) (t := num4.t) mixed (quiet_ext Xok num3.ok) (deep_none _) Tryd.func74 (by kernel_rfl) (sok_fn trivial) (by kernel_rfl) (fun x => by kernel_rfl)
end Go.Proofs.Pen

namespace Go.Proofs.Pen
open Go Go.Proofs
noncomputable def api_Errno_Error.t (x : Int) : T (ByteArray) := T.opt (num4 x) fun y => T.ite (decide ((↑((ByteArray.mk #[(112 : UInt8), (101 : UInt8), (110 : UInt8), (117 : UInt8), (109 : UInt8), (98 : UInt8), (114 : UInt8), (97 : UInt8), (32 : UInt8), (101 : UInt8), (114 : UInt8), (114 : UInt8), (111 : UInt8), (114 : UInt8), (32 : UInt8)]).size + y.size) : Int) > IntKind.i64.max)) T.fail (T.ret ((ByteArray.mk #[(112 : UInt8), (101 : UInt8), (110 : UInt8), (117 : UInt8), (109 : UInt8), (98 : UInt8), (114 : UInt8), (97 : UInt8), (32 : UInt8), (101 : UInt8), (114 : UInt8), (114 : UInt8), (111 : UInt8), (114 : UInt8), (32 : UInt8)]) ++ y))
noncomputable def api_Errno_Error (x : Int) : Option (ByteArray) := (api_Errno_Error.t x).run
noncomputable def api_Errno_Error.q : List AV → T AV := entry [TI] (outR [.str]) fun x => .opt (api_Errno_Error x) .ret
theorem api_Errno_Error.ok : FnOK Tryd.prog 41 api_Errno_Error.q :=
  entry_call (ps := [TI]) (rs := [.str]) (F := ({ quiet := (ext (ext (ext (ext (ext Xs 74 num0.q) 74 num1.q) 74 num2.q) 74 num3.q) 74 num4.q), deep := noDeep } : Fns)) (D := D0) (S := tabS []) (t := api_Errno_Error.t) mixed (quiet_ext (quiet_ext (quiet_ext (quiet_ext (quiet_ext Xok num0.ok) num1.ok) num2.ok) num3.ok) num4.ok) (deep_none _) Tryd.func41 (by kernel_rfl) (sok_fn trivial) (by kernel_rfl) (fun x => by kernel_rfl)
end Go.Proofs.Pen

namespace Go.Proofs.Pen
open Go Go.Proofs
noncomputable def fault_Fault_Error.t (x : (Int × Int × ErrD)) : T (ByteArray) := T.opt (api_Errno_Error x.1) fun y => T.ret y
noncomputable def fault_Fault_Error (x : (Int × Int × ErrD)) : Option (ByteArray) := (fault_Fault_Error.t x).run
noncomputable def fault_Fault_Error.q : List AV → T AV := entry [TF] (outR [.str]) fun x => .opt (fault_Fault_Error x) .ret
theorem fault_Fault_Error.ok : FnOK Tryd.prog 20 fault_Fault_Error.q :=
  entry_call (ps := [TF]) (rs := [.str]) (F := ({ quiet := (ext Xs 41 api_Errno_Error.q), deep := noDeep } : Fns)) (D := D0) (S := tabS []) (t := fault_Fault_Error.t) mixed (quiet_ext Xok api_Errno_Error.ok) (deep_none _) Tryd.func20 (by kernel_rfl) (sok_fn trivial) (by kernel_rfl) (fun x => by kernel_rfl)
end Go.Proofs.Pen

namespace Go.Proofs.Pen
open Go Go.Proofs
noncomputable def law01_FaultPlain.t (x : Int × Int × Int) : T (Bool) := T.opt (fault_Wrap (ErrD.code x.1, (8 : Int), x.2.2)) fun y => T.opt (fault_New ((0 : Int), x.2.2)) fun y_1 => T.ite (!y_1.isNil) (T.ret false) (T.opt (fault_Wrap (ErrD.nil, x.1, x.2.2)) fun y_2 => T.ite (!y_2.isNil) (T.ret false) (T.opt (fault_Is (ErrD.nil, x.1)) fun y_3 => T.ite y_3 (T.ret false) (T.opt (fault_Wrap (ErrD.code x.1, (0 : Int), x.2.2)) fun y_4 => T.opt (fault_Fault_Error (x.2.1, x.2.2, ErrD.code x.1)) fun y_5 => T.ite (y_5.toList == (ByteArray.mk #[]).toList) (T.ret false) (T.opt (fault_Is (ErrD.code x.1, x.1)) fun y_6 => T.ite (!y_6) (T.ret false) (T.ite (!x.2.1 == x.2.1) (T.ret false) (T.ite (!((15 : Int) == x.2.1) == (x.2.1 == (15 : Int))) (T.ret false) (T.ite true (T.opt (fault_Is (ErrD.code x.1, x.2.1)) fun y_7 => T.ite (y_7 == (x.1 == x.2.1)) (T.ite (x.1 == x.1) (T.opt (fault_Is (y, x.1)) fun y_8 => T.ite y_8 (T.ite (y.top == (8 : Int)) (T.opt (fault_Line y) fun y_9 => T.ite (y_9 == x.2.2) (T.opt (fault_Chain y) fun y => T.opt (ref01_Errs (y, List.take (2 : Nat) [(8 : Int), x.1])) fun y => T.ite y (T.opt (fault_Depth y_4) fun y => T.ite (y == (1 : Int)) (T.ret (y_4.top == x.1)) (T.ret false)) (T.ret false)) (T.ret false)) (T.ret false)) (T.ret false)) (T.ret false)) (T.ret false)) (T.ret false))))))))
noncomputable def law01_FaultPlain (x : Int × Int × Int) : Option (Bool) := (law01_FaultPlain.t x).run
noncomputable def law01_FaultPlain.q : List AV → T AV := entry [TI, TI, TI] (outR [.bool]) fun x => .opt (law01_FaultPlain x) .ret
theorem law01_FaultPlain.ok : FnOK Tryd.prog 5 law01_FaultPlain.q :=
  entry_call (ps := [TI, TI, TI]) (rs := [.bool]) (F := ({ quiet := (ext (ext (ext (ext (ext (ext (ext (ext (ext (ext (ext Xs 18 fault_Wrap.q) 19 fault_New.q) 13 fault_Is.q) 20 fault_Fault_Error.q) 21 fault_Fault_Unwrap.q) 22 fault_Fault_Is.q) 9 law01_awake.q) 11 fault_Line.q) 17 fault_Chain.q) 16 ref01_Errs.q) 12 fault_Depth.q), deep := noDeep } : Fns)) (D := D0) (S := tabS []) (t := law01_FaultPlain.t) mixed (quiet_ext (quiet_ext (quiet_ext (quiet_ext (quiet_ext (quiet_ext (quiet_ext (quiet_ext (quiet_ext (quiet_ext (quiet_ext Xok fault_Wrap.ok) fault_New.ok) fault_Is.ok) fault_Fault_Error.ok) fault_Fault_Unwrap.ok) fault_Fault_Is.ok) law01_awake.ok) fault_Line.ok) fault_Chain.ok) ref01_Errs.ok) fault_Depth.ok) (deep_none _) Tryd.func5 (by kernel_rfl) (sok_fn trivial) (by kernel_rfl) (fun x => by kernel_rfl)
end Go.Proofs.Pen

namespace Go.Proofs.Pen
open Go Go.Proofs

/-! ### Chains of faults -/
def ErrD.depth : ErrD → Nat
  | .nil => 0
  | .code _ => 1
  | .fault _ _ e => e.depth + 1

/-- It is a code, or wraps one. -/
def ErrD.has (c : Int) : ErrD → Bool
  | .nil => false
  | .code d => d == c
  | .fault d _ e => c == d || e.has c

/-- The faults, from the outermost on. -/
def mkR : List (Int × Int) → ErrD
  | [] => .nil
  | p :: l => .fault p.1 p.2 (mkR l)

theorem depth_mkR : ∀ l, (mkR l).depth = l.length
  | [] => rfl
  | p :: l => by simp [mkR, ErrD.depth, depth_mkR l]

theorem has_mkR (c : Int) : ∀ l, (mkR l).has c = l.any fun p => c == p.1
  | [] => rfl
  | p :: l => by simp [mkR, ErrD.has, has_mkR c l]

theorem unwrap_fault (c l : Int) (e : ErrD) : errors_Unwrap (.fault c l e) = some e := rfl
theorem unwrap_nil : errors_Unwrap .nil = some .nil := rfl
theorem unwrap_code (c : Int) : errors_Unwrap (.code c) = some .nil := rfl

theorem iter_stop {σ : Type} {t : σ → T (Ex × σ)} {n : Nat} {x y : σ} {e : Ex} (he : e ≠ .normal) (h : (t x).run = some (e, y)) : (iterT t (n + 1) x).run = some (e, y) := by
  rw [iter_step h]
  cases e <;> first | exact absurd rfl he | rfl
theorem iter_go {σ : Type} {t : σ → T (Ex × σ)} {n : Nat} {x y : σ} (h : (t x).run = some (.normal, y)) : (iterT t (n + 1) x).run = (iterT t n y).run := by
  rw [iter_step h]

theorem is_run (c : Int) (r : Bool) : ∀ (e : ErrD) (m : Nat), e.depth < m → ∃ e', (iterT errors_is.t0 m (e, c, true, r, ())).run = some (.ret, e', c, true, e.has c, ())
  | .nil, 0, h => absurd h (Nat.not_lt_zero _)
  | .nil, m + 1, _ => ⟨_, iter_stop (by simp) rfl⟩
  | .code d, 0, h => absurd h (Nat.not_lt_zero _)
  | .code d, m + 1, _ => by
    refine ⟨.code d, iter_stop (by simp) ?_⟩
    unfold errors_is.t0
    dsimp only [ErrD.isThe, ErrD.isFault]
    rw [tr_ite]
    cases h : d == c
    · simp [h, tr_ite, tr_ret, ErrD.has]
    · simp [h, tr_ret, ErrD.has]
  | .fault d l e, 0, h => absurd h (Nat.not_lt_zero _)
  | .fault d l e, m + 1, hm => by
    have hm : e.depth < m := by simp only [ErrD.depth] at hm; omega
    by_cases h : c == d
    · refine ⟨.fault d l e, iter_stop (by simp) ?_⟩
      unfold errors_is.t0
      dsimp only [ErrD.isThe, ErrD.isFault, ErrD.onlyF, ErrD.faultC]
      simp [h, tr_ite, tr_ret, ErrD.has]
    · have h' : (c == d) = false := by simpa using h
      by_cases hn : e.isNil = true
      · refine ⟨e, iter_stop (by simp) ?_⟩
        unfold errors_is.t0
        dsimp only [ErrD.isThe, ErrD.isFault, ErrD.onlyF, ErrD.faultC, ErrD.faultE]
        have he : e = .nil := by cases e <;> simp [ErrD.isNil] at hn; rfl
        subst he
        simp [h', tr_ite, tr_ret, ErrD.has, ErrD.isNil]
      · obtain ⟨e', he⟩ := is_run c r e m hm
        refine ⟨e', ?_⟩
        have hn' : e.isNil = false := by simpa using hn
        have h0 : (errors_is.t0 (.fault d l e, c, true, r, ())).run = some (.normal, e, c, true, r, ()) := by
          unfold errors_is.t0
          dsimp only [ErrD.isThe, ErrD.isFault, ErrD.onlyF, ErrD.faultC, ErrD.faultE]
          simp [h', hn', tr_ite, tr_ret]
        rw [iter_go h0, he]
        simp only [ErrD.has, h', Bool.false_or]

theorem Is_eq (e : ErrD) (c : Int) (h : e.depth ≤ 1000) : fault_Is (e, c) = some (e.has c) := by
  have e0 : ∀ e, e.isNil = false → e.depth ≤ 1000 → errors_Is (e, c) = some (e.has c) := by
    intro e hn hd
    have h1 : errors_is (e, c, true) = some (e.has c) := by
      obtain ⟨e', he⟩ := is_run c false e rounds (rounds_gt (by omega))
      unfold errors_is errors_is.t
      dsimp only
      have hl : errors_is.l0 (e, c, true, false, ()) = some (.ret, e', c, true, e.has c, ()) := he
      rw [tr_opt, hl, Option.bind_some, tr_ite, if_pos (by rfl), tr_ret]
    unfold errors_Is errors_Is.t
    dsimp only
    rw [tr_ite, hn, if_neg (by simp), tr_opt, h1, Option.bind_some, tr_ret]
  unfold fault_Is fault_Is.t
  dsimp only
  cases e with
  | nil => rfl
  | code d => rw [tr_ite, if_pos (by rfl), tr_opt, e0 _ rfl h, Option.bind_some, tr_ret]
  | fault d l e => rw [tr_ite, if_pos (by rfl), tr_opt, e0 _ rfl h, Option.bind_some, tr_ret]

/-- The first line that is not 0. -/
def lineR : List (Int × Int) → Int
  | [] => 0
  | p :: l => if p.2 = 0 then lineR l else p.2

theorem nn {n : Nat} (h : n < 1000) : W ((n : Int) + 1) = ((n + 1 : Nat) : Int) := W_succ h

theorem line_run : ∀ (l : List (Int × Int)) (line : Int) (n m : Nat), n + l.length ≤ 64 → l.length < m →
    (iterT eachLine.t0 m (line, mkR l, (n : Int), ())).run = some (.exit 0, (if line = 0 then lineR l else line), .nil, ((n + l.length : Nat) : Int), ())
  | [], line, n, 0, _, h => absurd h (Nat.not_lt_zero _)
  | [], line, n, m + 1, _, _ => by
    refine iter_stop (by simp) ?_
    unfold eachLine.t0
    dsimp only [mkR, ErrD.isNil, lineR]
    rw [tr_ite, if_neg (by simp), tr_ret]
    by_cases h : line = 0 <;> simp [h]
  | p :: l, line, n, 0, _, h => absurd h (Nat.not_lt_zero _)
  | p :: l, line, n, m + 1, hn, hm => by
    simp only [List.length_cons] at hn hm
    have h0 : (eachLine.t0 (line, mkR (p :: l), (n : Int), ())).run = some (.normal, (if line = 0 then p.2 else line), mkR l, ((n + 1 : Nat) : Int), ()) := by
      unfold eachLine.t0
      dsimp only [mkR, ErrD.isNil, ErrD.isFault, ErrD.faultL]
      have hd : decide ((n : Int) < 64) = true := decide_eq_true (by omega)
      rw [tr_ite, hd, if_pos (by rfl), tr_ite, unwrap_fault, nn (by omega)]
      by_cases h : line = 0 <;> simp [h, tr_opt, tr_ret]
    rw [iter_go h0, line_run l _ (n + 1) m (by omega) (by omega)]
    have e : n + 1 + l.length = n + (p :: l).length := by simp only [List.length_cons]; omega
    rw [e]
    by_cases h : line = 0
    · simp only [h, if_true, lineR]
    · simp [h]

theorem Line_eq (l : List (Int × Int)) (h : l.length ≤ 64) : fault_Line (mkR l) = some (lineR l) := by
  have hl : eachLine.l0 (0, mkR l, 0, ()) = _ := line_run l 0 0 rounds (by omega) (rounds_gt (by omega))
  unfold fault_Line fault_Line.t
  rw [tr_opt, hl, Option.bind_some, tr_ite, if_pos (by rfl), tr_ret]
  simp

theorem depth_run : ∀ (l : List (Int × Int)) (d n m : Nat), n + l.length ≤ 64 → d + l.length ≤ 64 → l.length < m →
    (iterT eachDepth.t0 m ((d : Int), mkR l, (n : Int), ())).run = some (.exit 0, ((d + l.length : Nat) : Int), .nil, ((n + l.length : Nat) : Int), ())
  | [], d, n, 0, _, _, h => absurd h (Nat.not_lt_zero _)
  | [], d, n, m + 1, _, _, _ => by
    refine iter_stop (by simp) ?_
    unfold eachDepth.t0
    dsimp only [mkR, ErrD.isNil]
    rw [tr_ite, if_neg (by simp), tr_ret]
    simp
  | p :: l, d, n, 0, _, _, h => absurd h (Nat.not_lt_zero _)
  | p :: l, d, n, m + 1, hn, hd, hm => by
    simp only [List.length_cons] at hn hm hd
    have h0 : (eachDepth.t0 ((d : Int), mkR (p :: l), (n : Int), ())).run = some (.normal, ((d + 1 : Nat) : Int), mkR l, ((n + 1 : Nat) : Int), ()) := by
      unfold eachDepth.t0
      dsimp only [mkR, ErrD.isNil]
      have hd : decide ((n : Int) < 64) = true := decide_eq_true (by omega)
      rw [tr_ite, hd, if_pos (by rfl), unwrap_fault, nn (by omega), nn (by omega)]
      simp [tr_opt, tr_ret]
    rw [iter_go h0, depth_run l (d + 1) (n + 1) m (by omega) (by omega) (by omega)]
    have e : n + 1 + l.length = n + (p :: l).length := by simp only [List.length_cons]; omega
    have e' : d + 1 + l.length = d + (p :: l).length := by simp only [List.length_cons]; omega
    rw [e, e']

theorem Depth_eq (l : List (Int × Int)) (h : l.length ≤ 64) : fault_Depth (mkR l) = some (l.length : Int) := by
  have hl : eachDepth.l0 (0, mkR l, 0, ()) = _ := depth_run l 0 0 rounds (by omega) (by omega) (rounds_gt (by omega))
  unfold fault_Depth fault_Depth.t
  rw [tr_opt, hl, Option.bind_some, tr_ite, if_pos (by rfl), tr_ret]
  simp

theorem chain_run : ∀ (l : List (Int × Int)) (acc : List Int) (n m : Nat), n + l.length ≤ 64 → acc.length + l.length ≤ 64 → l.length < m →
    (iterT eachChain.t0 m ((acc, ()), mkR l, (n : Int), ())).run = some (.exit 0, (acc ++ l.map (·.1), ()), .nil, ((n + l.length : Nat) : Int), ())
  | [], acc, n, 0, _, _, h => absurd h (Nat.not_lt_zero _)
  | [], acc, n, m + 1, _, _, _ => by
    refine iter_stop (by simp) ?_
    unfold eachChain.t0
    dsimp only [mkR, ErrD.isNil]
    rw [tr_ite, if_neg (by simp), tr_ret]
    simp
  | p :: l, acc, n, 0, _, _, h => absurd h (Nat.not_lt_zero _)
  | p :: l, acc, n, m + 1, hn, hd, hm => by
    simp only [List.length_cons] at hn hm hd
    have h0 : (eachChain.t0 ((acc, ()), mkR (p :: l), (n : Int), ())).run = some (.normal, (acc ++ [p.1], ()), mkR l, ((n + 1 : Nat) : Int), ()) := by
      unfold eachChain.t0
      dsimp only [mkR, ErrD.isNil, ErrD.isFault, ErrD.faultC]
      have hd : decide ((n : Int) < 64) = true := decide_eq_true (by omega)
      have hr : (acc.length + 1) * 8 ≤ most := room (by omega) (by omega)
      rw [tr_ite, hd, if_pos (by rfl), unwrap_fault, nn (by omega), tr_ite, if_pos (by rfl), tr_ite, if_pos (decide_eq_true hr), tr_opt, Option.bind_some, tr_ret, take_all]
    rw [iter_go h0, chain_run l (acc ++ [p.1]) (n + 1) m (by omega) (by simp; omega) (by omega)]
    have e : n + 1 + l.length = n + (p :: l).length := by simp only [List.length_cons]; omega
    rw [e]
    simp

theorem Chain_eq (l : List (Int × Int)) (h : l.length ≤ 64) : fault_Chain (mkR l) = some (l.map (·.1)) := by
  have hl : eachChain.l0 (([], ()), mkR l, 0, ()) = _ := chain_run l [] 0 rounds (by omega) (by simpa using h) (rounds_gt (by omega))
  unfold fault_Chain fault_Chain.t
  rw [tr_opt, hl, Option.bind_some, tr_ite, if_pos (by rfl), tr_ret]
  simp only [List.nil_append, List.take_length]

/-! ### The document's answers -/
theorem Has_eq (l : List (Int × Int)) (c : Int) (h : l.length ≤ 64) : ref01_Has (l, c) = some (l.any fun p => c == p.1) := by
  have key : ∀ (n k m : Nat), k + n = l.length → n < m → (iterT ref01_Has.t0 m (l, c, false, (k : Int), ())).run = some (if ((l.drop k).any fun p => c == p.1) = true then (.ret, l, c, true, ((k + (l.drop k).findIdx (fun p => c == p.1) : Nat) : Int), ()) else (.exit 0, l, c, false, (l.length : Int), ())) := by
    intro n
    induction n with
    | zero =>
      intro k m hk hm
      obtain ⟨m, rfl⟩ : ∃ j, m = j + 1 := ⟨m - 1, by omega⟩
      have hd : l.drop k = [] := List.drop_eq_nil_of_le (by omega)
      rw [hd]
      refine iter_stop (by simp) ?_
      unfold ref01_Has.t0
      dsimp only
      rw [tr_ite, decide_eq_false (by omega), if_neg (by simp), tr_ret]
      simp; omega
    | succ n ih =>
      intro k m hk hm
      obtain ⟨m, rfl⟩ : ∃ j, m = j + 1 := ⟨m - 1, by omega⟩
      have hlt : k < l.length := by omega
      have hd : l.drop k = l[k] :: l.drop (k + 1) := List.drop_eq_getElem_cons hlt
      by_cases hc : (c == l[k].1) = true
      · rw [hd]
        have h1 : ((l[k] :: l.drop (k + 1)).any fun p => c == p.1) = true := by rw [List.any_cons, hc, Bool.true_or]
        rw [if_pos h1]
        refine iter_stop (by simp) ?_
        unfold ref01_Has.t0
        dsimp only
        have hc' : (l[k].1 == c) = true := by rw [beq_iff_eq] at hc ⊢; exact hc.symm
        rw [tr_ite, decide_eq_true (by omega), if_pos rfl, tr_opt, lget_nat l hlt, Option.bind_some, tr_ite, if_pos hc', tr_ret, List.findIdx_cons, hc]
        simp
      · have hc0 : (c == l[k].1) = false := by simpa using hc
        have h0 : (ref01_Has.t0 (l, c, false, (k : Int), ())).run = some (.normal, l, c, false, ((k + 1 : Nat) : Int), ()) := by
          unfold ref01_Has.t0
          dsimp only
          have hc' : ¬ (l[k].1 == c) = true := by intro hh; rw [beq_iff_eq] at hh; rw [hh] at hc; simp at hc
          rw [tr_ite, decide_eq_true (by omega), if_pos rfl, tr_opt, lget_nat l hlt, Option.bind_some, tr_ite, if_neg hc', tr_ret, nn (by omega)]
        rw [iter_go h0, ih (k + 1) m (by omega) (by omega), hd]
        have h1 : ((l[k] :: l.drop (k + 1)).any fun p => c == p.1) = ((l.drop (k + 1)).any fun p => c == p.1) := by rw [List.any_cons, hc0, Bool.false_or]
        rw [h1, List.findIdx_cons, hc0]
        simp only [cond_false]
        have e : k + 1 + List.findIdx (fun p => c == p.1) (l.drop (k + 1)) = k + (List.findIdx (fun p => c == p.1) (l.drop (k + 1)) + 1) := by omega
        rw [e]
  have hl : ref01_Has.l0 (l, c, false, 0, ()) = _ := key l.length 0 rounds (by omega) (rounds_gt (by omega))
  rw [List.drop_zero] at hl
  unfold ref01_Has ref01_Has.t
  dsimp only
  rw [tr_opt, hl, Option.bind_some]
  by_cases hc : (l.any fun p => c == p.1) = true
  · simp only [hc, if_true]; rfl
  · simp only [hc, if_false]; rfl

theorem RLine_eq (l : List (Int × Int)) (h : l.length ≤ 64) : ref01_Line l = some (lineR l.reverse) := by
  have key : ∀ (n m : Nat) (r : Int), n ≤ l.length → n < m → ∃ e a i, (iterT ref01_Line.t0 m (l, r, (n : Int) - 1, ())).run = some (e, l, a, i, ()) ∧ ((e = .exit 0 ∧ lineR (l.take n).reverse = 0) ∨ (e = .ret ∧ a = lineR (l.take n).reverse)) := by
    intro n
    induction n with
    | zero =>
      intro m r _ hm
      obtain ⟨m, rfl⟩ : ∃ j, m = j + 1 := ⟨m - 1, by omega⟩
      refine ⟨.exit 0, r, ((0 : Nat) : Int) - 1, iter_stop (by simp) ?_, .inl ⟨rfl, rfl⟩⟩
      unfold ref01_Line.t0
      dsimp only
      rw [tr_ite, decide_eq_false (by omega), if_neg (by simp), tr_ret]
    | succ n ih =>
      intro m r hn hm
      obtain ⟨m, rfl⟩ : ∃ j, m = j + 1 := ⟨m - 1, by omega⟩
      have hlt : n < l.length := by omega
      have ei : ((n + 1 : Nat) : Int) - 1 = (n : Int) := by omega
      have et : (l.take (n + 1)).reverse = l[n] :: (l.take n).reverse := by rw [List.take_succ_eq_append_getElem hlt, List.reverse_append]; rfl
      by_cases hc : l[n].2 = 0
      · obtain ⟨e, a, i, h1, h2⟩ := ih m r (by omega) (by omega)
        have h0 : (ref01_Line.t0 (l, r, ((n + 1 : Nat) : Int) - 1, ())).run = some (.normal, l, r, (n : Int) - 1, ()) := by
          rw [ei]
          unfold ref01_Line.t0
          dsimp only
          rw [tr_ite, decide_eq_true (by omega), if_pos rfl, tr_opt, lget_nat l hlt, Option.bind_some, tr_ite, if_neg (by simp [hc]), tr_ret, W_id (by omega) (by omega)]
        refine ⟨e, a, i, by rw [iter_go h0]; exact h1, ?_⟩
        rw [et]
        simp only [lineR, hc, if_true]
        exact h2
      · refine ⟨.ret, l[n].2, (n : Int), iter_stop (by simp) ?_, .inr ⟨rfl, ?_⟩⟩
        · rw [ei]
          unfold ref01_Line.t0
          dsimp only
          rw [tr_ite, decide_eq_true (by omega), if_pos rfl, tr_opt, lget_nat l hlt, Option.bind_some, tr_ite, if_pos (by simp [hc]), tr_opt, Option.bind_some, tr_ret]
        · rw [et]; simp only [lineR, hc, if_false]
  obtain ⟨e, a, i, h1, h2⟩ := key l.length rounds 0 (Nat.le_refl _) (rounds_gt (by omega))
  rw [List.take_length] at h2
  have hl : ref01_Line.l0 (l, 0, (l.length : Int) - 1, ()) = some (e, l, a, i, ()) := h1
  unfold ref01_Line ref01_Line.t
  rw [W_id (by omega) (by omega), tr_opt, hl, Option.bind_some]
  rcases h2 with ⟨rfl, h2⟩ | ⟨rfl, h2⟩
  · rw [h2]; rfl
  · rw [← h2]; rfl

theorem errs_self (l : List Int) (hn : l.length ≤ 64) : ref01_Errs (l, l) = some true := by
  have hl : ref01_Errs.l0 (l, l, false, 0, ()) = some (.exit 0, l, l, false, (l.length : Int), ()) := by
    unfold ref01_Errs.l0
    have := iter_count (t := ref01_Errs.t0) (fun i => ((l, l, false, (i : Int), ()) : List Int × List Int × Bool × Int × Unit)) (e := .exit 0) (z := (l, l, false, (l.length : Int), ())) (by simp) l.length 0 rounds (fun i _ hi => ?_) ?_ (rounds_gt (by omega))
    · simpa using this
    · have hi : i < l.length := by omega
      unfold ref01_Errs.t0
      dsimp only
      rw [tr_ite, decide_eq_true (by omega), if_pos rfl, tr_opt, lget_nat l hi, Option.bind_some, tr_opt, Option.bind_some, tr_ite, if_neg (by simp), tr_ret, W_succ (by omega)]
    · rw [Nat.zero_add]
      unfold ref01_Errs.t0
      dsimp only
      rw [tr_ite, decide_eq_false (by omega), if_neg (by simp), tr_ret]
  unfold ref01_Errs ref01_Errs.t
  dsimp only
  rw [tr_ite, if_neg (by simp), tr_opt, hl, Option.bind_some, tr_ite, if_pos (by rfl), tr_ret]

end Go.Proofs.Pen

namespace Go.Proofs.Pen
open Go Go.Proofs

/-- What stands ahead of a place, but for what is OK. -/
def some1 (l : List (Int × Int)) (k : Nat) : List (Int × Int) := (l.take k).filter fun p => !(p.1 == 0)

theorem some1_len (l : List (Int × Int)) (k : Nat) : (some1 l k).length ≤ k := by
  unfold some1
  refine Nat.le_trans (List.length_filter_le _ _) ?_
  rw [List.length_take]; omega

theorem mkR_snoc (xs : List (Int × Int)) (p : Int × Int) : mkR (xs ++ [p]).reverse = .fault p.1 p.2 (mkR xs.reverse) := by
  rw [List.reverse_append]; rfl

theorem New_eq {c l : Int} (h : ¬ (c == 0) = true) : fault_New (c, l) = some (.fault c l .nil) := by
  unfold fault_New fault_New.t
  rw [tr_ite, if_neg h, tr_ret]

theorem Wrap_eq {e : ErrD} {c l : Int} (he : e.isNil = false) (h : ¬ (c == 0) = true) : fault_Wrap (e, c, l) = some (.fault c l e) := by
  unfold fault_Wrap fault_Wrap.t
  dsimp only
  rw [tr_ite, he, Bool.false_or, if_neg h, tr_ret]

theorem mkR_nil {xs : List (Int × Int)} : (mkR xs).isNil = xs.isEmpty := by cases xs <;> rfl

theorem chain_eq (l : List (Int × Int)) (hl0 : l.length ≤ 9223372036854775807) : law01_chain l = some (mkR (some1 l (min l.length 40)).reverse, some1 l (min l.length 40)) := by
  let n := min l.length 40
  let st : Nat → (List (Int × Int)) × ErrD × List (Int × Int) × Int × Unit := fun k => (l, mkR (some1 l k).reverse, some1 l k, (k : Int), ())
  have h1 : ∀ i, 0 ≤ i → i < 0 + n → (law01_chain.t0 (st i)).run = some (.normal, st (i + 1)) := by
    intro i _ hi
    have hn : n ≤ 40 ∧ n ≤ l.length := ⟨Nat.min_le_right _ _, Nat.min_le_left _ _⟩
    have hlt : i < l.length := by omega
    have hs := some1_len l i
    have es : some1 l (i + 1) = some1 l i ++ (if (l[i].1 == 0) = true then [] else [l[i]]) := by
      unfold some1
      rw [List.take_succ_eq_append_getElem hlt, List.filter_append]
      congr 1
      cases h : l[i].1 == 0 <;> simp [h]
    show (law01_chain.t0 (l, mkR (some1 l i).reverse, some1 l i, (i : Int), ())).run = _
    have hr : ((some1 l i).length + 1) * 16 ≤ most := room (by omega) (by omega)
    have hc : (decide ((i : Int) < ((l.length : Nat) : Int)) && decide ((i : Int) < 40)) = true := by
      rw [decide_eq_true (by omega), decide_eq_true (by omega)]; rfl
    unfold law01_chain.t0
    dsimp only
    rw [tr_ite, hc, if_pos rfl, tr_opt, lget_nat l hlt, Option.bind_some, tr_ite, nn (by omega), List.take_length]
    by_cases h0 : (l[i].1 == 0) = true
    · rw [if_pos h0, tr_ret]
      show _ = some (Ex.normal, (l, mkR (some1 l (i + 1)).reverse, some1 l (i + 1), ((i + 1 : Nat) : Int), ()))
      rw [es, if_pos h0, List.append_nil]
    · rw [if_neg h0]
      have fin : some (Ex.normal, st (i + 1)) = some (Ex.normal, l, ErrD.fault l[i].1 l[i].2 (mkR (some1 l i).reverse), some1 l i ++ [l[i]], ((i + 1 : Nat) : Int), ()) := by
        show some (Ex.normal, (l, mkR (some1 l (i + 1)).reverse, some1 l (i + 1), ((i + 1 : Nat) : Int), ())) = _
        rw [es, if_neg h0, mkR_snoc]
      rw [fin]
      have ht : List.take ((some1 l i).length + 1) (some1 l i ++ [l[i]]) = some1 l i ++ [l[i]] := List.take_of_length_le (by simp)
      rw [tr_ite]
      by_cases he : (((some1 l i).length : Int) == 0) = true
      · have hnil : some1 l i = [] := by
          rw [beq_iff_eq] at he
          exact List.length_eq_zero_iff.1 (by omega)
        rw [if_pos he, tr_opt, Option.bind_some, tr_opt, Option.bind_some, tr_opt, New_eq h0, Option.bind_some, tr_opt, Option.bind_some, tr_ite, if_pos (decide_eq_true hr), tr_ret, ht]
        rw [hnil]; rfl
      · have hnn : (mkR (some1 l i).reverse).isNil = false := by
          rw [mkR_nil, List.isEmpty_reverse]
          cases hh : some1 l i with
          | nil => rw [hh] at he; exact absurd rfl he
          | cons p q => rfl
        rw [if_neg he, tr_opt, Option.bind_some, tr_opt, Option.bind_some, tr_opt, Wrap_eq hnn h0, Option.bind_some, tr_opt, Option.bind_some, tr_ite, if_pos (decide_eq_true hr), tr_ret, ht]
  have h2 : (law01_chain.t0 (st (0 + n))).run = some (.exit 0, st n) := by
    rw [Nat.zero_add]
    show (law01_chain.t0 (l, mkR (some1 l n).reverse, some1 l n, (n : Int), ())).run = _
    have hc : (decide ((n : Int) < ((l.length : Nat) : Int)) && decide ((n : Int) < 40)) = false := by
      show (decide (((min l.length 40 : Nat) : Int) < ((l.length : Nat) : Int)) && decide (((min l.length 40 : Nat) : Int) < 40)) = false
      rcases Nat.lt_or_ge l.length 40 with h | h
      · rw [decide_eq_false (by omega)]; rfl
      · rw [Bool.and_comm, decide_eq_false (by omega)]; rfl
    unfold law01_chain.t0
    dsimp only
    rw [tr_ite, hc, if_neg (by simp), tr_ret, List.take_length]
  have hl : law01_chain.l0 (l, .nil, [], 0, ()) = some (.exit 0, st n) := by
    have hn : n ≤ 40 := Nat.min_le_right _ _
    have := iter_count st (by simp) n 0 rounds h1 h2 (rounds_gt (by omega))
    exact this
  unfold law01_chain law01_chain.t
  rw [tr_opt, hl, Option.bind_some, tr_ite, if_pos (by rfl), tr_ret]
  show some (mkR (some1 l n).reverse, List.take (some1 l n).length (some1 l n)) = _
  rw [List.take_length]

theorem any_rev (c : Int) (l : List (Int × Int)) : (l.reverse.any fun p => c == p.1) = l.any fun p => c == p.1 := by rw [List.any_reverse]

theorem lget_last {xs : List (Int × Int)} (h : xs.length ≤ 40) {p : Int × Int} {q : List (Int × Int)} (e : xs.reverse = p :: q) : lget xs (W ((xs.length : Int) - 1)) = some p := by
  have hx : xs = q.reverse ++ [p] := by
    have := congrArg List.reverse e
    simpa using this
  rw [W_id (by omega) (by omega)]
  have hl : xs.length = q.length + 1 := by rw [hx]; simp
  have e1 : (xs.length : Int) - 1 = (q.length : Int) := by omega
  rw [e1, lget_nat xs (by omega)]
  congr 1
  subst hx
  simp [List.getElem_append]

theorem finds_eq (l : List (Int × Int)) (c : Int) (hl0 : l.length ≤ 9223372036854775807) : (law01_FaultFinds.t (l, c)).run = some true := by
  have hs : (some1 l (min l.length 40)).length ≤ 40 := Nat.le_trans (some1_len _ _) (Nat.min_le_right _ _)
  generalize hxs : some1 l (min l.length 40) = xs at hs
  have hch : law01_chain l = some (mkR xs.reverse, xs) := by rw [chain_eq l hl0, hxs]
  have hlr : xs.reverse.length = xs.length := List.length_reverse
  unfold law01_FaultFinds.t
  dsimp only
  rw [tr_opt, hch, Option.bind_some, tr_ite, mkR_nil]
  cases hr : xs.reverse with
  | nil =>
    have hnil : xs = [] := by simpa using hr
    subst hnil
    have e1 : fault_Line (mkR []) = some 0 := Line_eq [] (by simp)
    have e2 : fault_Depth (mkR []) = some 0 := Depth_eq [] (by simp)
    have e3 : fault_Is (mkR [], c) = some false := Is_eq _ c (by simp [mkR, ErrD.depth])
    rw [if_pos (by rfl), tr_ite, if_pos (by rfl), tr_ite, if_pos (by rfl), tr_opt, e1, Option.bind_some, tr_ite, if_pos (by rfl), tr_opt, e2, Option.bind_some, tr_ite, if_pos (by rfl), tr_opt, e3, Option.bind_some, tr_ret]
    rfl
  | cons p q =>
    have hq : (p :: q).length = xs.length := by rw [← hr]; exact hlr
    have e1 : fault_Line (mkR (p :: q)) = some (lineR (p :: q)) := Line_eq _ (by omega)
    have e2 : fault_Depth (mkR (p :: q)) = some ((p :: q).length : Int) := Depth_eq _ (by omega)
    have e3 : fault_Is (mkR (p :: q), c) = some ((p :: q).any fun p => c == p.1) := by
      rw [Is_eq _ c (by rw [depth_mkR]; omega), has_mkR]
    have e4 : ref01_Has (xs, c) = some ((p :: q).any fun p => c == p.1) := by rw [Has_eq _ _ (by omega), ← hr, any_rev]
    have e5 : ref01_Line xs = some (lineR (p :: q)) := by rw [RLine_eq _ (by omega), hr]
    have e6 := lget_last hs hr
    have e7 : (mkR (p :: q)).top = p.1 := rfl
    rw [if_neg (by simp), tr_ite, if_pos rfl, tr_opt, e3, Option.bind_some, tr_opt, e4, Option.bind_some, tr_ite, if_pos (by simp), tr_opt, e6, Option.bind_some, tr_ite, e7, if_pos (by simp), tr_opt, e1, Option.bind_some, tr_opt, e5, Option.bind_some, tr_ite, if_pos (by simp), tr_opt, e2, Option.bind_some, tr_ret, hq]
    simp

theorem faultFinds_plain (x : dens [(.sl (.st (.pair TI TI))), TI]) (h : insAll [(.sl (.st (.pair TI TI))), TI] x) : (law01_FaultFinds.t x).run = some true := by
  refine finds_eq x.1 x.2 ?_
  have h1 := h.1
  simp only [Ty.In] at h1
  have h2 := h1.2.1
  have : reachBytes ≤ 9223372036854775807 := by decide
  exact Nat.le_trans h2 this

theorem want_eq (e : ErrD) (xs : List (Int × Int)) (h : xs.length ≤ 64) : ∃ i, law01_FaultChains.l0 (e, xs, [], (xs.length : Int) - 1, ()) = some (.exit 0, e, xs, xs.reverse.map (·.1), i, ()) := by
  have key : ∀ (n m : Nat), n ≤ xs.length → n < m → ∃ i, (iterT law01_FaultChains.t0 m (e, xs, (xs.drop n).reverse.map (·.1), (n : Int) - 1, ())).run = some (.exit 0, e, xs, xs.reverse.map (·.1), i, ()) := by
    intro n
    induction n with
    | zero =>
      intro m _ hm
      obtain ⟨m, rfl⟩ : ∃ j, m = j + 1 := ⟨m - 1, by omega⟩
      refine ⟨((0 : Nat) : Int) - 1, iter_stop (by simp) ?_⟩
      unfold law01_FaultChains.t0
      dsimp only
      rw [tr_ite, decide_eq_false (by omega), if_neg (by simp), tr_ret, List.take_length]
      rfl
    | succ n ih =>
      intro m hn hm
      obtain ⟨m, rfl⟩ : ∃ j, m = j + 1 := ⟨m - 1, by omega⟩
      have hlt : n < xs.length := by omega
      obtain ⟨i, hi⟩ := ih m (by omega) (by omega)
      refine ⟨i, ?_⟩
      have ed : (xs.drop n).reverse.map (·.1) = (xs.drop (n + 1)).reverse.map (·.1) ++ [xs[n].1] := by
        rw [List.drop_eq_getElem_cons hlt, List.reverse_cons, List.map_append]; rfl
      have ei : ((n + 1 : Nat) : Int) - 1 = (n : Int) := by omega
      generalize hacc : (xs.drop (n + 1)).reverse.map (·.1) = acc at ed
      have hal : acc.length ≤ 64 := by rw [← hacc]; simp; omega
      have hr : (acc.length + 1) * 8 ≤ most := room (by omega) (by omega)
      have h0 : (law01_FaultChains.t0 (e, xs, acc, ((n + 1 : Nat) : Int) - 1, ())).run = some (.normal, e, xs, acc ++ [xs[n].1], (n : Int) - 1, ()) := by
        rw [ei]
        unfold law01_FaultChains.t0
        dsimp only
        rw [tr_ite, decide_eq_true (by omega), if_pos rfl, tr_opt, lget_nat xs hlt, Option.bind_some, tr_ite, if_pos (decide_eq_true hr), tr_ret, take_all, W_id (by omega) (by omega)]
      rw [iter_go h0, ← ed]
      exact hi
  obtain ⟨i, hi⟩ := key xs.length rounds (Nat.le_refl _) (rounds_gt (by omega))
  rw [List.drop_length] at hi
  exact ⟨i, hi⟩

theorem chains_eq (l : List (Int × Int)) (hl0 : l.length ≤ 9223372036854775807) : (law01_FaultChains.t l).run = some true := by
  have hs : (some1 l (min l.length 40)).length ≤ 40 := Nat.le_trans (some1_len _ _) (Nat.min_le_right _ _)
  generalize hxs : some1 l (min l.length 40) = xs at hs
  have hch : law01_chain l = some (mkR xs.reverse, xs) := by rw [chain_eq l hl0, hxs]
  obtain ⟨i, hi⟩ := want_eq (mkR xs.reverse) xs (by omega)
  have hc : fault_Chain (mkR xs.reverse) = some (xs.reverse.map (·.1)) := Chain_eq _ (by simp; omega)
  have he : ref01_Errs (xs.reverse.map (·.1), xs.reverse.map (·.1)) = some true := errs_self _ (by simp; omega)
  unfold law01_FaultChains.t
  rw [tr_opt, hch, Option.bind_some, tr_opt]
  dsimp only
  rw [W_id (by omega) (by omega), hi, Option.bind_some, tr_ite, if_pos (by rfl), tr_ite, if_pos rfl, tr_opt, hc, Option.bind_some, tr_opt]
  dsimp only
  rw [List.take_length, he, Option.bind_some, tr_ret]

theorem faultChains_plain (x : dens [(.sl (.st (.pair TI TI)))]) (h : insAll [(.sl (.st (.pair TI TI)))] x) : (law01_FaultChains.t x).run = some true := by
  refine chains_eq x ?_
  have h1 : Ty.In (.sl (.st (.pair TI TI))) x := h
  simp only [Ty.In] at h1
  have h2 := h1.2.1
  have : reachBytes ≤ 9223372036854775807 := by decide
  exact Nat.le_trans h2 this
end Go.Proofs.Pen

namespace Go.Proofs.Pen
open Go Go.Proofs
noncomputable def law22_Light.t (x : ((List ((Int × Int × Int) × (Int × Int × Int) × Int)) × (List ((Int × Int × Int) × (Int × Int × Int) × (Int × Int × Int) × Int)) × (List (Int × Int × Int × Int)) × Int × (List (Int × Int × Int)) × ((Int × Int × Int) × (Int × Int × Int) × (Int × Int × Int) × Int × Int × Int) × Int × Int)) : T (Bool) := T.ret (decide ((↑(List.length x.1) : Int) ≤ (40 : Int)) && decide ((↑(List.length x.2.1) : Int) ≤ (60 : Int)) && decide ((↑(List.length x.2.2.1) : Int) ≤ (60 : Int)) && decide ((↑(List.length x.2.2.2.2.1) : Int) ≤ (200 : Int)))
noncomputable def law22_Light.q : List AV → T AV := entry [TScn] (outR [.bool]) law22_Light.t
theorem law22_Light.ok : FnOK Tryd.prog 23 law22_Light.q :=
  entry_in (ps := [TScn]) (rs := [.bool]) (F := ({ quiet := Xs, deep := noDeep } : Fns)) (D := D0) (S := tabS []) (t := law22_Light.t) mixed Xok (deep_none _) Tryd.func23 (by kernel_rfl) (sok_fn trivial) (by kernel_rfl) (fun x => by kernel_rfl)
end Go.Proofs.Pen

namespace Go.Proofs.Pen
open Go Go.Proofs
set_option maxRecDepth 100000
noncomputable def law22_awake.t (_ : Unit) : T (Bool) := T.ret true
noncomputable def law22_awake.q : List AV → T AV := entry [] (outR [.bool]) fun _ => .ret (true : dens [.bool])
theorem law22_awake.ok : FnOK Tryd.prog 24 law22_awake.q := peK_entry mixed Xok [10] 100 20 Tryd.func24 (by kernel_rfl) (by kernel_rfl)
end Go.Proofs.Pen

namespace Go.Proofs.Pen
open Go Go.Proofs
noncomputable def scene_bound.t (x : Int × Int) : T (ErrD) := T.opt (fault_New x) fun y => T.opt (fault_Wrap (y, (10 : Int), (0 : Int))) fun y => T.ret y
noncomputable def scene_bound (x : Int × Int) : Option (ErrD) := (scene_bound.t x).run
noncomputable def scene_bound.q : List AV → T AV := entry [TI, TI] (outR [TE]) fun x => .opt (scene_bound x) .ret
theorem scene_bound.ok : FnOK Tryd.prog 82 scene_bound.q :=
  entry_call (ps := [TI, TI]) (rs := [TE]) (F := ({ quiet := (ext (ext Xs 19 fault_New.q) 18 fault_Wrap.q), deep := noDeep } : Fns)) (D := D0) (S := tabS []) (t := scene_bound.t) mixed (quiet_ext (quiet_ext Xok fault_New.ok) fault_Wrap.ok) (deep_none _) Tryd.func82 (by kernel_rfl) (sok_fn trivial) (by kernel_rfl) (fun x => by kernel_rfl)
end Go.Proofs.Pen

namespace Go.Proofs.Pen
open Go Go.Proofs
noncomputable def scene_many.t (x : ((List ((Int × Int × Int) × (Int × Int × Int) × Int)) × (List ((Int × Int × Int) × (Int × Int × Int) × (Int × Int × Int) × Int)) × (List (Int × Int × Int × Int)) × Int × (List (Int × Int × Int)) × ((Int × Int × Int) × (Int × Int × Int) × (Int × Int × Int) × Int × Int × Int) × Int × Int)) : T (ErrD) := T.ite (decide ((↑(List.length x.1) : Int) > (32 : Int)) || decide ((↑(List.length x.2.1) : Int) > (512 : Int)) || decide ((↑(List.length x.2.2.1) : Int) > (512 : Int)) || decide (x.2.2.2.1 > (16 : Int))) (T.opt (scene_bound ((4 : Int), (0 : Int))) fun y => T.ret y) (T.ret ErrD.nil)
noncomputable def scene_many (x : ((List ((Int × Int × Int) × (Int × Int × Int) × Int)) × (List ((Int × Int × Int) × (Int × Int × Int) × (Int × Int × Int) × Int)) × (List (Int × Int × Int × Int)) × Int × (List (Int × Int × Int)) × ((Int × Int × Int) × (Int × Int × Int) × (Int × Int × Int) × Int × Int × Int) × Int × Int)) : Option (ErrD) := (scene_many.t x).run
noncomputable def scene_many.q : List AV → T AV := entry [TScn] (outR [TE]) fun x => .opt (scene_many x) .ret
theorem scene_many.ok : FnOK Tryd.prog 46 scene_many.q :=
  entry_call (ps := [TScn]) (rs := [TE]) (F := ({ quiet := (ext Xs 82 scene_bound.q), deep := noDeep } : Fns)) (D := D0) (S := tabS []) (t := scene_many.t) mixed (quiet_ext Xok scene_bound.ok) (deep_none _) Tryd.func46 (by kernel_rfl) (sok_fn trivial) (by kernel_rfl) (fun x => by kernel_rfl)
end Go.Proofs.Pen

namespace Go.Proofs.Pen
open Go Go.Proofs
def slices_Min.L0 : List (Nat × Lay) := [(0, .val (.sl TI)), (3, .val TI), (4, .val TI)]
noncomputable def slices_Min.t0 (x : (List (Int)) × Int × Int × Unit) : T (Ex × (List (Int)) × Int × Int × Unit) := T.ite (decide (x.2.2.1 < (↑(List.length x.1) : Int))) (T.opt (lget x.1 x.2.2.1) fun y => T.ret (Ex.normal, x.1, if y < x.2.1 then y else x.2.1, W (x.2.2.1 + (1 : Int)), ())) (T.ret (Ex.exit (0 : Nat), x.1, x.2.1, x.2.2.1, ()))
noncomputable def slices_Min.l0 (x : (List (Int)) × Int × Int × Unit) : Option (Ex × (List (Int)) × Int × Int × Unit) := (iterT slices_Min.t0 rounds x).run
theorem slices_Min.k0 : bodies 0 (lp Tryd.f104 []) = [.loop (loopIn 0 (lp Tryd.f104 []))] ∧ WP Tryd.prog 0 (.block 0 (.loop (loopIn 0 (lp Tryd.f104 [])))) (loopS slices_Min.L0 25 0 [.exit 0] slices_Min.l0) :=
  loop_tree (L := slices_Min.L0) (F := ({ quiet := Xs, deep := noDeep } : Fns)) (D := D0) (tab := []) (t := slices_Min.t0) mixed Xok (deep_none _) (fun _ => rfl) (by kernel_rfl) (by kernel_rfl) trivial (fun x => by kernel_rfl)
noncomputable def slices_Min.t (x : (List (Int))) : T (Int) := T.ite (decide ((↑(List.length x) : Int) < (1 : Int))) T.fail (T.opt (lget x (0 : Int)) fun y => T.opt (slices_Min.l0 (x, y, (1 : Int), ())) fun y => T.ite (exEq y.1 (Ex.exit (0 : Nat))) (T.ret y.2.2.1) T.fail)
noncomputable def slices_Min (x : (List (Int))) : Option (Int) := (slices_Min.t x).run
noncomputable def slices_Min.q : List AV → T AV := entry [(.sl TI)] (outR [TI]) fun x => .opt (slices_Min x) .ret
theorem slices_Min.ok : FnOK Tryd.prog 104 slices_Min.q :=
  entry_call (ps := [(.sl TI)]) (rs := [TI]) (F := ({ quiet := Xs, deep := noDeep } : Fns)) (D := D0) (S := tabS [(0, loopS slices_Min.L0 25 0 [.exit 0] slices_Min.l0)]) (t := slices_Min.t) mixed Xok (deep_none _) Tryd.func104 (by kernel_rfl) (sok_fn ⟨slices_Min.k0, trivial⟩) (by kernel_rfl) (fun x => by kernel_rfl)
end Go.Proofs.Pen

namespace Go.Proofs.Pen
open Go Go.Proofs
def slices_Max.L0 : List (Nat × Lay) := [(0, .val (.sl TI)), (3, .val TI), (4, .val TI)]
noncomputable def slices_Max.t0 (x : (List (Int)) × Int × Int × Unit) : T (Ex × (List (Int)) × Int × Int × Unit) := T.ite (decide (x.2.2.1 < (↑(List.length x.1) : Int))) (T.opt (lget x.1 x.2.2.1) fun y => T.ret (Ex.normal, x.1, if y > x.2.1 then y else x.2.1, W (x.2.2.1 + (1 : Int)), ())) (T.ret (Ex.exit (0 : Nat), x.1, x.2.1, x.2.2.1, ()))
noncomputable def slices_Max.l0 (x : (List (Int)) × Int × Int × Unit) : Option (Ex × (List (Int)) × Int × Int × Unit) := (iterT slices_Max.t0 rounds x).run
theorem slices_Max.k0 : bodies 0 (lp Tryd.f76 []) = [.loop (loopIn 0 (lp Tryd.f76 []))] ∧ WP Tryd.prog 0 (.block 0 (.loop (loopIn 0 (lp Tryd.f76 [])))) (loopS slices_Max.L0 25 0 [.exit 0] slices_Max.l0) :=
  loop_tree (L := slices_Max.L0) (F := ({ quiet := Xs, deep := noDeep } : Fns)) (D := D0) (tab := []) (t := slices_Max.t0) mixed Xok (deep_none _) (fun _ => rfl) (by kernel_rfl) (by kernel_rfl) trivial (fun x => by kernel_rfl)
noncomputable def slices_Max.t (x : (List (Int))) : T (Int) := T.ite (decide ((↑(List.length x) : Int) < (1 : Int))) T.fail (T.opt (lget x (0 : Int)) fun y => T.opt (slices_Max.l0 (x, y, (1 : Int), ())) fun y => T.ite (exEq y.1 (Ex.exit (0 : Nat))) (T.ret y.2.2.1) T.fail)
noncomputable def slices_Max (x : (List (Int))) : Option (Int) := (slices_Max.t x).run
noncomputable def slices_Max.q : List AV → T AV := entry [(.sl TI)] (outR [TI]) fun x => .opt (slices_Max x) .ret
theorem slices_Max.ok : FnOK Tryd.prog 76 slices_Max.q :=
  entry_call (ps := [(.sl TI)]) (rs := [TI]) (F := ({ quiet := Xs, deep := noDeep } : Fns)) (D := D0) (S := tabS [(0, loopS slices_Max.L0 25 0 [.exit 0] slices_Max.l0)]) (t := slices_Max.t) mixed Xok (deep_none _) Tryd.func76 (by kernel_rfl) (sok_fn ⟨slices_Max.k0, trivial⟩) (by kernel_rfl) (fun x => by kernel_rfl)
end Go.Proofs.Pen

namespace Go.Proofs.Pen
open Go Go.Proofs
noncomputable def scene_within_1.t (x : (List (Int)) × Int × Int) : T (Bool) := T.opt (slices_Min x.1) fun y => T.ite (decide (y ≥ x.2.1)) (T.opt (slices_Max x.1) fun y => T.ret (decide (y ≤ x.2.2))) (T.ret false)
noncomputable def scene_within_1 (x : (List (Int)) × Int × Int) : Option (Bool) := (scene_within_1.t x).run
noncomputable def scene_within_1.q : List AV → T AV := entry [(.sl TI), (.ptr TI), (.ptr TI)] (outR [.bool]) fun x => .opt (scene_within_1 x) .ret
theorem scene_within_1.ok : FnOK Tryd.prog 103 scene_within_1.q :=
  entry_call (ps := [(.sl TI), (.ptr TI), (.ptr TI)]) (rs := [.bool]) (F := ({ quiet := (ext (ext Xs 104 slices_Min.q) 76 slices_Max.q), deep := noDeep } : Fns)) (D := D0) (S := tabS []) (t := scene_within_1.t) mixed (quiet_ext (quiet_ext Xok slices_Min.ok) slices_Max.ok) (deep_none _) Tryd.func103 (by kernel_rfl) (sok_fn trivial) (by kernel_rfl) (fun x => by kernel_rfl)
end Go.Proofs.Pen

namespace Go.Proofs.Pen
open Go Go.Proofs
noncomputable def scene_within.t (x : Int × Int) : T ((Int × Int)) := T.ret x
noncomputable def scene_within.q : List AV → T AV := entry [TI, TI] (outR [(.clo 103 (.pair (.ptr TI) (.ptr TI)))]) scene_within.t
theorem scene_within.ok : FnOK Tryd.prog 83 scene_within.q :=
  entry_in (ps := [TI, TI]) (rs := [(.clo 103 (.pair (.ptr TI) (.ptr TI)))]) (F := ({ quiet := (ext Xs 103 scene_within_1.q), deep := noDeep } : Fns)) (D := D0) (S := tabS []) (t := scene_within.t) mixed (quiet_ext Xok scene_within_1.ok) (deep_none _) Tryd.func83 (by kernel_rfl) (sok_fn trivial) (by kernel_rfl) (fun x => by kernel_rfl)
end Go.Proofs.Pen

namespace Go.Proofs.Pen
open Go Go.Proofs
noncomputable def scene_point.t (x : (Int × Int × Int)) : T ((List (Int))) := T.ret (List.take (3 : Nat) [x.1, x.2.1, x.2.2])
noncomputable def scene_point.q : List AV → T AV := entry [TP] (outR [(.sl TI)]) scene_point.t
theorem scene_point.ok : FnOK Tryd.prog 77 scene_point.q :=
  entry_in (ps := [TP]) (rs := [(.sl TI)]) (F := ({ quiet := Xs, deep := noDeep } : Fns)) (D := D0) (S := tabS []) (t := scene_point.t) mixed Xok (deep_none _) Tryd.func77 (by kernel_rfl) (sok_fn trivial) (by kernel_rfl) (fun x => by kernel_rfl)
end Go.Proofs.Pen

namespace Go.Proofs.Pen
open Go Go.Proofs
noncomputable def scene_broken.t (x : Int × Int) : T (ErrD) := T.opt (fault_New x) fun y => T.opt (fault_Wrap (y, (11 : Int), (0 : Int))) fun y => T.ret y
noncomputable def scene_broken (x : Int × Int) : Option (ErrD) := (scene_broken.t x).run
noncomputable def scene_broken.q : List AV → T AV := entry [TI, TI] (outR [TE]) fun x => .opt (scene_broken x) .ret
theorem scene_broken.ok : FnOK Tryd.prog 84 scene_broken.q :=
  entry_call (ps := [TI, TI]) (rs := [TE]) (F := ({ quiet := (ext (ext Xs 19 fault_New.q) 18 fault_Wrap.q), deep := noDeep } : Fns)) (D := D0) (S := tabS []) (t := scene_broken.t) mixed (quiet_ext (quiet_ext Xok fault_New.ok) fault_Wrap.ok) (deep_none _) Tryd.func84 (by kernel_rfl) (sok_fn trivial) (by kernel_rfl) (fun x => by kernel_rfl)
end Go.Proofs.Pen

namespace Go.Proofs.Pen
open Go Go.Proofs
def scene_mats.L2 : List (Nat × Lay) := [(2, .val TE), (3, .val (.clo 103 (.pair (.ptr TI) (.ptr TI)))), (4, .val TI), (5, .box TMatD), (10, .val (.sl TMatD)), (11, .val TI), (12, .val TI), (44, .val (.sl TI)), (45, .val TI), (46, .val TI)]
noncomputable def scene_mats.t2 (x : ErrD × (Int × Int) × Int × ((Int × Int × Int) × (Int × Int × Int) × Int) × (List ((Int × Int × Int) × (Int × Int × Int) × Int)) × Int × Int × (List (Int)) × Int × Int × Unit) : T (Ex × ErrD × (Int × Int) × Int × ((Int × Int × Int) × (Int × Int × Int) × Int) × (List ((Int × Int × Int) × (Int × Int × Int) × Int)) × Int × Int × (List (Int)) × Int × Int × Unit) := T.ite (decide (x.2.2.2.2.2.2.2.2.2.1 < x.2.2.2.2.2.2.2.2.1)) (T.opt (lget x.2.2.2.2.2.2.2.1 x.2.2.2.2.2.2.2.2.2.1) fun y => T.ite (decide (y ≥ (1024 : Int))) (T.opt (scene_broken ((4 : Int), W (x.2.2.1 + (1 : Int)))) fun y => T.ret (Ex.ret, y, x.2.1, x.2.2.1, x.2.2.2.1, x.2.2.2.2.1, x.2.2.2.2.2.1, x.2.2.2.2.2.2.1, x.2.2.2.2.2.2.2.1, x.2.2.2.2.2.2.2.2.1, x.2.2.2.2.2.2.2.2.2.1, ())) (T.opt (lget (List.take (3 : Nat) [x.2.2.2.1.2.1.1, x.2.2.2.1.2.1.2.1, x.2.2.2.1.2.1.2.2]) x.2.2.2.2.2.2.2.2.2.1) fun y_1 => T.ite (decide (W (y + if (1024 : Int) < y_1 then (1024 : Int) else y_1) ≥ (1024 : Int))) (T.opt (scene_broken ((4 : Int), W (x.2.2.1 + (1 : Int)))) fun y => T.ret (Ex.ret, y, x.2.1, x.2.2.1, x.2.2.2.1, x.2.2.2.2.1, x.2.2.2.2.2.1, x.2.2.2.2.2.2.1, x.2.2.2.2.2.2.2.1, x.2.2.2.2.2.2.2.2.1, x.2.2.2.2.2.2.2.2.2.1, ())) (T.ret (Ex.normal, x.1, x.2.1, x.2.2.1, x.2.2.2.1, x.2.2.2.2.1, x.2.2.2.2.2.1, x.2.2.2.2.2.2.1, x.2.2.2.2.2.2.2.1, x.2.2.2.2.2.2.2.2.1, W (x.2.2.2.2.2.2.2.2.2.1 + (1 : Int)), ())))) (T.ret (Ex.exit (2 : Nat), x.1, x.2.1, x.2.2.1, x.2.2.2.1, x.2.2.2.2.1, x.2.2.2.2.2.1, x.2.2.2.2.2.2.1, x.2.2.2.2.2.2.2.1, x.2.2.2.2.2.2.2.2.1, x.2.2.2.2.2.2.2.2.2.1, ()))
noncomputable def scene_mats.l2 (x : ErrD × (Int × Int) × Int × ((Int × Int × Int) × (Int × Int × Int) × Int) × (List ((Int × Int × Int) × (Int × Int × Int) × Int)) × Int × Int × (List (Int)) × Int × Int × Unit) : Option (Ex × ErrD × (Int × Int) × Int × ((Int × Int × Int) × (Int × Int × Int) × Int) × (List ((Int × Int × Int) × (Int × Int × Int) × Int)) × Int × Int × (List (Int)) × Int × Int × Unit) := (iterT scene_mats.t2 rounds x).run
theorem scene_mats.k2 : bodies 2 (lp Tryd.f47 [0]) = [.loop (loopIn 2 (lp Tryd.f47 [0]))] ∧ WP Tryd.prog 0 (.block 2 (.loop (loopIn 2 (lp Tryd.f47 [0])))) (loopS scene_mats.L2 70 2 [.exit 2, .ret] scene_mats.l2) :=
  loop_tree (L := scene_mats.L2) (F := ({ quiet := (ext (ext (ext (ext (ext Xs 83 scene_within.q) 77 scene_point.q) 82 scene_bound.q) 84 scene_broken.q) 103 scene_within_1.q), deep := noDeep } : Fns)) (D := D0) (tab := []) (t := scene_mats.t2) mixed (quiet_ext (quiet_ext (quiet_ext (quiet_ext (quiet_ext Xok scene_within.ok) scene_point.ok) scene_bound.ok) scene_broken.ok) scene_within_1.ok) (deep_none _) (fun _ => rfl) (by kernel_rfl) (by kernel_rfl) trivial (fun x => by kernel_rfl)
def scene_mats.L0 : List (Nat × Lay) := [(2, .val TE), (3, .val (.clo 103 (.pair (.ptr TI) (.ptr TI)))), (10, .val (.sl TMatD)), (11, .val TI), (12, .val TI)]
noncomputable def scene_mats.t0 (x : ErrD × (Int × Int) × (List ((Int × Int × Int) × (Int × Int × Int) × Int)) × Int × Int × Unit) : T (Ex × ErrD × (Int × Int) × (List ((Int × Int × Int) × (Int × Int × Int) × Int)) × Int × Int × Unit) := T.ite (decide (x.2.2.2.2.1 < x.2.2.2.1)) (T.opt (lget x.2.2.1 x.2.2.2.2.1) fun y => T.opt (scene_within_1 ([y.2.2], (1 : Int), (1024 : Int))) fun y_1 => T.ite (!y_1) (T.opt (scene_bound ((3 : Int), W (x.2.2.2.2.1 + (1 : Int)))) fun y => T.ret (Ex.ret, y, x.2.1, x.2.2.1, x.2.2.2.1, x.2.2.2.2.1, ())) (T.opt (scene_within_1 (List.take (3 : Nat) [y.1.1, y.1.2.1, y.1.2.2], x.2.1)) fun y_2 => T.ite (!y_2) (T.opt (scene_bound ((3 : Int), W (x.2.2.2.2.1 + (1 : Int)))) fun y => T.ret (Ex.ret, y, x.2.1, x.2.2.1, x.2.2.2.1, x.2.2.2.2.1, ())) (T.opt (scene_within_1 (List.take (3 : Nat) [y.2.1.1, y.2.1.2.1, y.2.1.2.2], x.2.1)) fun y_3 => T.ite (!y_3) (T.opt (scene_bound ((3 : Int), W (x.2.2.2.2.1 + (1 : Int)))) fun y => T.ret (Ex.ret, y, x.2.1, x.2.2.1, x.2.2.2.1, x.2.2.2.2.1, ())) (T.opt (scene_mats.l2 (x.1, x.2.1, x.2.2.2.2.1, y, x.2.2.1, x.2.2.2.1, x.2.2.2.2.1, List.take (3 : Nat) [y.1.1, y.1.2.1, y.1.2.2], (↑(List.take (3 : Nat) [y.1.1, y.1.2.1, y.1.2.2]).length : Int), (0 : Int), ())) fun y => T.ite (exEq y.1 (Ex.exit (2 : Nat))) (T.ret (Ex.normal, y.2.1, y.2.2.1, y.2.2.2.2.2.1, y.2.2.2.2.2.2.1, W (y.2.2.2.2.2.2.2.1 + (1 : Int)), ())) (T.ite (exEq y.1 Ex.ret) (T.ret (Ex.ret, y.2.1, y.2.2.1, y.2.2.2.2.2.1, y.2.2.2.2.2.2.1, y.2.2.2.2.2.2.2.1, ())) T.fail))))) (T.ret (Ex.exit (0 : Nat), x.1, x.2.1, x.2.2.1, x.2.2.2.1, x.2.2.2.2.1, ()))
noncomputable def scene_mats.l0 (x : ErrD × (Int × Int) × (List ((Int × Int × Int) × (Int × Int × Int) × Int)) × Int × Int × Unit) : Option (Ex × ErrD × (Int × Int) × (List ((Int × Int × Int) × (Int × Int × Int) × Int)) × Int × Int × Unit) := (iterT scene_mats.t0 rounds x).run
theorem scene_mats.k0 : bodies 0 (lp Tryd.f47 []) = [.loop (loopIn 0 (lp Tryd.f47 []))] ∧ WP Tryd.prog 0 (.block 0 (.loop (loopIn 0 (lp Tryd.f47 [])))) (loopS scene_mats.L0 70 0 [.exit 0, .ret] scene_mats.l0) :=
  loop_tree (L := scene_mats.L0) (F := ({ quiet := (ext (ext (ext (ext (ext Xs 83 scene_within.q) 77 scene_point.q) 82 scene_bound.q) 84 scene_broken.q) 103 scene_within_1.q), deep := noDeep } : Fns)) (D := D0) (tab := [(2, loopS scene_mats.L2 70 2 [.exit 2, .ret] scene_mats.l2)]) (t := scene_mats.t0) mixed (quiet_ext (quiet_ext (quiet_ext (quiet_ext (quiet_ext Xok scene_within.ok) scene_point.ok) scene_bound.ok) scene_broken.ok) scene_within_1.ok) (deep_none _) (fun _ => rfl) (by kernel_rfl) (by kernel_rfl) ⟨scene_mats.k2, trivial⟩ (fun x => by kernel_rfl)
noncomputable def scene_mats.t (x : ((List ((Int × Int × Int) × (Int × Int × Int) × Int)) × (List ((Int × Int × Int) × (Int × Int × Int) × (Int × Int × Int) × Int)) × (List (Int × Int × Int × Int)) × Int × (List (Int × Int × Int)) × ((Int × Int × Int) × (Int × Int × Int) × (Int × Int × Int) × Int × Int × Int) × Int × Int)) : T (ErrD) := T.opt (scene_mats.l0 (ErrD.nil, ((0 : Int), (9223372036854775807 : Int)), x.1, (↑(List.length x.1) : Int), (0 : Int), ())) fun y => T.ite (exEq y.1 (Ex.exit (0 : Nat))) (T.ret ErrD.nil) (T.ite (exEq y.1 Ex.ret) (T.ret y.2.1) T.fail)
noncomputable def scene_mats (x : ((List ((Int × Int × Int) × (Int × Int × Int) × Int)) × (List ((Int × Int × Int) × (Int × Int × Int) × (Int × Int × Int) × Int)) × (List (Int × Int × Int × Int)) × Int × (List (Int × Int × Int)) × ((Int × Int × Int) × (Int × Int × Int) × (Int × Int × Int) × Int × Int × Int) × Int × Int)) : Option (ErrD) := (scene_mats.t x).run
noncomputable def scene_mats.q : List AV → T AV := entry [TScn] (outR [TE]) fun x => .opt (scene_mats x) .ret
theorem scene_mats.ok : FnOK Tryd.prog 47 scene_mats.q :=
  entry_call (ps := [TScn]) (rs := [TE]) (F := ({ quiet := (ext (ext (ext (ext (ext Xs 83 scene_within.q) 77 scene_point.q) 82 scene_bound.q) 84 scene_broken.q) 103 scene_within_1.q), deep := noDeep } : Fns)) (D := D0) (S := tabS [(0, loopS scene_mats.L0 70 0 [.exit 0, .ret] scene_mats.l0)]) (t := scene_mats.t) mixed (quiet_ext (quiet_ext (quiet_ext (quiet_ext (quiet_ext Xok scene_within.ok) scene_point.ok) scene_bound.ok) scene_broken.ok) scene_within_1.ok) (deep_none _) Tryd.func47 (by kernel_rfl) (sok_fn ⟨scene_mats.k0, trivial⟩) (by kernel_rfl) (fun x => by kernel_rfl)
end Go.Proofs.Pen

namespace Go.Proofs.Pen
open Go Go.Proofs
noncomputable def scene_less.t (x : (Int × Int × Int) × (Int × Int × Int)) : T ((Int × Int × Int)) := T.ret (W (x.1.1 - x.2.1), W (x.1.2.1 - x.2.2.1), W (x.1.2.2 - x.2.2.2))
noncomputable def scene_less.q : List AV → T AV := entry [TP, TP] (outR [TP]) scene_less.t
theorem scene_less.ok : FnOK Tryd.prog 86 scene_less.q :=
  entry_in (ps := [TP, TP]) (rs := [TP]) (F := ({ quiet := Xs, deep := noDeep } : Fns)) (D := D0) (S := tabS []) (t := scene_less.t) mixed Xok (deep_none _) Tryd.func86 (by kernel_rfl) (sok_fn trivial) (by kernel_rfl) (fun x => by kernel_rfl)
end Go.Proofs.Pen

namespace Go.Proofs.Pen
open Go Go.Proofs
noncomputable def scene_flat.t (x : (Int × Int × Int) × (Int × Int × Int)) : T (Bool) := T.ret (W (W (x.1.2.1 * x.2.2.2) - W (x.1.2.2 * x.2.2.1)) == (0 : Int) && (W (W (x.1.2.2 * x.2.1) - W (x.1.1 * x.2.2.2)) == (0 : Int) && W (W (x.1.1 * x.2.2.1) - W (x.1.2.1 * x.2.1)) == (0 : Int)))
noncomputable def scene_flat.q : List AV → T AV := entry [TP, TP] (outR [.bool]) scene_flat.t
theorem scene_flat.ok : FnOK Tryd.prog 85 scene_flat.q :=
  entry_in (ps := [TP, TP]) (rs := [.bool]) (F := ({ quiet := Xs, deep := noDeep } : Fns)) (D := D0) (S := tabS []) (t := scene_flat.t) mixed Xok (deep_none _) Tryd.func85 (by kernel_rfl) (sok_fn trivial) (by kernel_rfl) (fun x => by kernel_rfl)
end Go.Proofs.Pen

namespace Go.Proofs.Pen
open Go Go.Proofs
def scene_tris.L0 : List (Nat × Lay) := [(1, .box TScn), (2, .val TE), (3, .val (.clo 103 (.pair (.ptr TI) (.ptr TI)))), (8, .val (.sl TTriD)), (9, .val TI), (10, .val TI)]
noncomputable def scene_tris.t0 (x : ((List ((Int × Int × Int) × (Int × Int × Int) × Int)) × (List ((Int × Int × Int) × (Int × Int × Int) × (Int × Int × Int) × Int)) × (List (Int × Int × Int × Int)) × Int × (List (Int × Int × Int)) × ((Int × Int × Int) × (Int × Int × Int) × (Int × Int × Int) × Int × Int × Int) × Int × Int) × ErrD × (Int × Int) × (List ((Int × Int × Int) × (Int × Int × Int) × (Int × Int × Int) × Int)) × Int × Int × Unit) : T (Ex × ((List ((Int × Int × Int) × (Int × Int × Int) × Int)) × (List ((Int × Int × Int) × (Int × Int × Int) × (Int × Int × Int) × Int)) × (List (Int × Int × Int × Int)) × Int × (List (Int × Int × Int)) × ((Int × Int × Int) × (Int × Int × Int) × (Int × Int × Int) × Int × Int × Int) × Int × Int) × ErrD × (Int × Int) × (List ((Int × Int × Int) × (Int × Int × Int) × (Int × Int × Int) × Int)) × Int × Int × Unit) := T.ite (decide (x.2.2.2.2.2.1 < x.2.2.2.2.1)) (T.opt (lget x.2.2.2.1 x.2.2.2.2.2.1) fun y => T.ite (decide (y.2.2.2 < (0 : Int)) || decide (y.2.2.2 ≥ (↑(List.length x.1.1) : Int))) (T.opt (scene_broken ((2 : Int), W (x.2.2.2.2.2.1 + (1 : Int)))) fun y => T.ret (Ex.ret, x.1, y, x.2.2.1, x.2.2.2.1, x.2.2.2.2.1, x.2.2.2.2.2.1, ())) (T.opt (scene_within_1 (List.take (3 : Nat) [y.1.1, y.1.2.1, y.1.2.2], x.2.2.1)) fun y_1 => T.ite (!y_1) (T.opt (scene_bound ((3 : Int), W (x.2.2.2.2.2.1 + (1 : Int)))) fun y => T.ret (Ex.ret, x.1, y, x.2.2.1, x.2.2.2.1, x.2.2.2.2.1, x.2.2.2.2.2.1, ())) (T.opt (scene_within_1 (List.take (3 : Nat) [y.2.1.1, y.2.1.2.1, y.2.1.2.2], x.2.2.1)) fun y_2 => T.ite (!y_2) (T.opt (scene_bound ((3 : Int), W (x.2.2.2.2.2.1 + (1 : Int)))) fun y => T.ret (Ex.ret, x.1, y, x.2.2.1, x.2.2.2.1, x.2.2.2.2.1, x.2.2.2.2.2.1, ())) (T.opt (scene_within_1 (List.take (3 : Nat) [y.2.2.1.1, y.2.2.1.2.1, y.2.2.1.2.2], x.2.2.1)) fun y_3 => T.ite (!y_3) (T.opt (scene_bound ((3 : Int), W (x.2.2.2.2.2.1 + (1 : Int)))) fun y => T.ret (Ex.ret, x.1, y, x.2.2.1, x.2.2.2.1, x.2.2.2.2.1, x.2.2.2.2.2.1, ())) (T.ite (W (W (W (y.2.1.2.1 - y.1.2.1) * W (y.2.2.1.2.2 - y.1.2.2)) - W (W (y.2.1.2.2 - y.1.2.2) * W (y.2.2.1.2.1 - y.1.2.1))) == (0 : Int) && (W (W (W (y.2.1.2.2 - y.1.2.2) * W (y.2.2.1.1 - y.1.1)) - W (W (y.2.1.1 - y.1.1) * W (y.2.2.1.2.2 - y.1.2.2))) == (0 : Int) && W (W (W (y.2.1.1 - y.1.1) * W (y.2.2.1.2.1 - y.1.2.1)) - W (W (y.2.1.2.1 - y.1.2.1) * W (y.2.2.1.1 - y.1.1))) == (0 : Int))) (T.opt (scene_broken ((13 : Int), W (x.2.2.2.2.2.1 + (1 : Int)))) fun y => T.ret (Ex.ret, x.1, y, x.2.2.1, x.2.2.2.1, x.2.2.2.2.1, x.2.2.2.2.2.1, ())) (T.ret (Ex.normal, x.1, x.2.1, x.2.2.1, x.2.2.2.1, x.2.2.2.2.1, W (x.2.2.2.2.2.1 + (1 : Int)), ()))))))) (T.ret (Ex.exit (0 : Nat), x.1, x.2.1, x.2.2.1, x.2.2.2.1, x.2.2.2.2.1, x.2.2.2.2.2.1, ()))
noncomputable def scene_tris.l0 (x : ((List ((Int × Int × Int) × (Int × Int × Int) × Int)) × (List ((Int × Int × Int) × (Int × Int × Int) × (Int × Int × Int) × Int)) × (List (Int × Int × Int × Int)) × Int × (List (Int × Int × Int)) × ((Int × Int × Int) × (Int × Int × Int) × (Int × Int × Int) × Int × Int × Int) × Int × Int) × ErrD × (Int × Int) × (List ((Int × Int × Int) × (Int × Int × Int) × (Int × Int × Int) × Int)) × Int × Int × Unit) : Option (Ex × ((List ((Int × Int × Int) × (Int × Int × Int) × Int)) × (List ((Int × Int × Int) × (Int × Int × Int) × (Int × Int × Int) × Int)) × (List (Int × Int × Int × Int)) × Int × (List (Int × Int × Int)) × ((Int × Int × Int) × (Int × Int × Int) × (Int × Int × Int) × Int × Int × Int) × Int × Int) × ErrD × (Int × Int) × (List ((Int × Int × Int) × (Int × Int × Int) × (Int × Int × Int) × Int)) × Int × Int × Unit) := (iterT scene_tris.t0 rounds x).run
theorem scene_tris.k0 : bodies 0 (lp Tryd.f48 []) = [.loop (loopIn 0 (lp Tryd.f48 []))] ∧ WP Tryd.prog 0 (.block 0 (.loop (loopIn 0 (lp Tryd.f48 [])))) (loopS scene_tris.L0 72 0 [.exit 0, .ret] scene_tris.l0) :=
  loop_tree (L := scene_tris.L0) (F := ({ quiet := (ext (ext (ext (ext (ext (ext (ext Xs 83 scene_within.q) 84 scene_broken.q) 77 scene_point.q) 82 scene_bound.q) 86 scene_less.q) 85 scene_flat.q) 103 scene_within_1.q), deep := noDeep } : Fns)) (D := D0) (tab := []) (t := scene_tris.t0) mixed (quiet_ext (quiet_ext (quiet_ext (quiet_ext (quiet_ext (quiet_ext (quiet_ext Xok scene_within.ok) scene_broken.ok) scene_point.ok) scene_bound.ok) scene_less.ok) scene_flat.ok) scene_within_1.ok) (deep_none _) (fun _ => rfl) (by kernel_rfl) (by kernel_rfl) trivial (fun x => by kernel_rfl)
noncomputable def scene_tris.t (x : ((List ((Int × Int × Int) × (Int × Int × Int) × Int)) × (List ((Int × Int × Int) × (Int × Int × Int) × (Int × Int × Int) × Int)) × (List (Int × Int × Int × Int)) × Int × (List (Int × Int × Int)) × ((Int × Int × Int) × (Int × Int × Int) × (Int × Int × Int) × Int × Int × Int) × Int × Int)) : T (ErrD) := T.opt (scene_tris.l0 (x, ErrD.nil, ((-1048576 : Int), (1048576 : Int)), x.2.1, (↑(List.length x.2.1) : Int), (0 : Int), ())) fun y => T.ite (exEq y.1 (Ex.exit (0 : Nat))) (T.ret ErrD.nil) (T.ite (exEq y.1 Ex.ret) (T.ret y.2.2.1) T.fail)
noncomputable def scene_tris (x : ((List ((Int × Int × Int) × (Int × Int × Int) × Int)) × (List ((Int × Int × Int) × (Int × Int × Int) × (Int × Int × Int) × Int)) × (List (Int × Int × Int × Int)) × Int × (List (Int × Int × Int)) × ((Int × Int × Int) × (Int × Int × Int) × (Int × Int × Int) × Int × Int × Int) × Int × Int)) : Option (ErrD) := (scene_tris.t x).run
noncomputable def scene_tris.q : List AV → T AV := entry [TScn] (outR [TE]) fun x => .opt (scene_tris x) .ret
theorem scene_tris.ok : FnOK Tryd.prog 48 scene_tris.q :=
  entry_call (ps := [TScn]) (rs := [TE]) (F := ({ quiet := (ext (ext (ext (ext (ext (ext (ext Xs 83 scene_within.q) 84 scene_broken.q) 77 scene_point.q) 82 scene_bound.q) 86 scene_less.q) 85 scene_flat.q) 103 scene_within_1.q), deep := noDeep } : Fns)) (D := D0) (S := tabS [(0, loopS scene_tris.L0 72 0 [.exit 0, .ret] scene_tris.l0)]) (t := scene_tris.t) mixed (quiet_ext (quiet_ext (quiet_ext (quiet_ext (quiet_ext (quiet_ext (quiet_ext Xok scene_within.ok) scene_broken.ok) scene_point.ok) scene_bound.ok) scene_less.ok) scene_flat.ok) scene_within_1.ok) (deep_none _) Tryd.func48 (by kernel_rfl) (sok_fn ⟨scene_tris.k0, trivial⟩) (by kernel_rfl) (fun x => by kernel_rfl)
end Go.Proofs.Pen

namespace Go.Proofs.Pen
open Go Go.Proofs
noncomputable def scene_lights_1.t (x : (Int × Int × Int × Int) × (Int × Int × Int × Int)) : T (Bool) := T.ret (x.2.1 == x.1.1)
noncomputable def scene_lights_1.q : List AV → T AV := entry [TLitD, (.ptr TLitD)] (outR [.bool]) scene_lights_1.t
theorem scene_lights_1.ok : FnOK Tryd.prog 87 scene_lights_1.q :=
  entry_in (ps := [TLitD, (.ptr TLitD)]) (rs := [.bool]) (F := ({ quiet := Xs, deep := noDeep } : Fns)) (D := D0) (S := tabS []) (t := scene_lights_1.t) mixed Xok (deep_none _) Tryd.func87 (by kernel_rfl) (sok_fn trivial) (by kernel_rfl) (fun x => by kernel_rfl)
end Go.Proofs.Pen

namespace Go.Proofs.Pen
open Go Go.Proofs
def IdxL.L0 : List (Nat × Lay) := [(0, .val (.sl TLitD)), (1, .val (.clo 87 (.ptr TLitD))), (4, .val TI), (7, .val TI), (8, .val TI)]
noncomputable def IdxL.t0 (x : (List (Int × Int × Int × Int)) × (Int × Int × Int × Int) × Int × Int × Int × Unit) : T (Ex × (List (Int × Int × Int × Int)) × (Int × Int × Int × Int) × Int × Int × Int × Unit) := T.ite (decide (x.2.2.2.2.1 < x.2.2.2.1)) (T.opt (lget x.1 x.2.2.2.2.1) fun y => T.ite (x.2.1.1 == y.1) (T.ret (Ex.ret, x.1, x.2.1, x.2.2.2.2.1, x.2.2.2.1, x.2.2.2.2.1, ())) (T.ret (Ex.normal, x.1, x.2.1, x.2.2.1, x.2.2.2.1, W (x.2.2.2.2.1 + (1 : Int)), ()))) (T.ret (Ex.exit (0 : Nat), x.1, x.2.1, x.2.2.1, x.2.2.2.1, x.2.2.2.2.1, ()))
noncomputable def IdxL.l0 (x : (List (Int × Int × Int × Int)) × (Int × Int × Int × Int) × Int × Int × Int × Unit) : Option (Ex × (List (Int × Int × Int × Int)) × (Int × Int × Int × Int) × Int × Int × Int × Unit) := (iterT IdxL.t0 rounds x).run
theorem IdxL.k0 : bodies 0 (lp Tryd.f102 []) = [.loop (loopIn 0 (lp Tryd.f102 []))] ∧ WP Tryd.prog 0 (.block 0 (.loop (loopIn 0 (lp Tryd.f102 [])))) (loopS IdxL.L0 19 0 [.exit 0, .ret] IdxL.l0) :=
  loop_tree (L := IdxL.L0) (F := ({ quiet := (ext Xs 87 scene_lights_1.q), deep := noDeep } : Fns)) (D := D0) (tab := []) (t := IdxL.t0) mixed (quiet_ext Xok scene_lights_1.ok) (deep_none _) (fun _ => rfl) (by kernel_rfl) (by kernel_rfl) trivial (fun x => by kernel_rfl)
noncomputable def IdxL.t (x : (List (Int × Int × Int × Int)) × (Int × Int × Int × Int)) : T (Int) := T.opt (IdxL.l0 (x.1, x.2, (0 : Int), (↑(List.length x.1) : Int), (0 : Int), ())) fun y => T.ite (exEq y.1 (Ex.exit (0 : Nat))) (T.ret (-1 : Int)) (T.ite (exEq y.1 Ex.ret) (T.ret y.2.2.2.1) T.fail)
noncomputable def IdxL (x : (List (Int × Int × Int × Int)) × (Int × Int × Int × Int)) : Option (Int) := (IdxL.t x).run
noncomputable def IdxL.q : List AV → T AV := entry [(.sl TLitD), (.clo 87 (.ptr TLitD))] (outR [TI]) fun x => .opt (IdxL x) .ret
theorem IdxL.ok : FnOK Tryd.prog 102 IdxL.q :=
  entry_call (ps := [(.sl TLitD), (.clo 87 (.ptr TLitD))]) (rs := [TI]) (F := ({ quiet := (ext Xs 87 scene_lights_1.q), deep := noDeep } : Fns)) (D := D0) (S := tabS [(0, loopS IdxL.L0 19 0 [.exit 0, .ret] IdxL.l0)]) (t := IdxL.t) mixed (quiet_ext Xok scene_lights_1.ok) (deep_none _) Tryd.func102 (by kernel_rfl) (sok_fn ⟨IdxL.k0, trivial⟩) (by kernel_rfl) (fun x => by kernel_rfl)
end Go.Proofs.Pen

namespace Go.Proofs.Pen
open Go Go.Proofs
noncomputable def ConL.t (x : (List (Int × Int × Int × Int)) × (Int × Int × Int × Int)) : T (Bool) := T.opt (IdxL x) fun y => T.ret (decide (y ≥ (0 : Int)))
noncomputable def ConL (x : (List (Int × Int × Int × Int)) × (Int × Int × Int × Int)) : Option (Bool) := (ConL.t x).run
noncomputable def ConL.q : List AV → T AV := entry [(.sl TLitD), (.clo 87 (.ptr TLitD))] (outR [.bool]) fun x => .opt (ConL x) .ret
theorem ConL.ok : FnOK Tryd.prog 79 ConL.q :=
  entry_call (ps := [(.sl TLitD), (.clo 87 (.ptr TLitD))]) (rs := [.bool]) (F := ({ quiet := (ext (ext Xs 102 IdxL.q) 87 scene_lights_1.q), deep := noDeep } : Fns)) (D := D0) (S := tabS []) (t := ConL.t) mixed (quiet_ext (quiet_ext Xok IdxL.ok) scene_lights_1.ok) (deep_none _) Tryd.func79 (by kernel_rfl) (sok_fn trivial) (by kernel_rfl) (fun x => by kernel_rfl)
end Go.Proofs.Pen

namespace Go.Proofs.Pen
open Go Go.Proofs
def scene_lights.L0 : List (Nat × Lay) := [(1, .box TScn), (2, .val TE), (3, .val (.clo 103 (.pair (.ptr TI) (.ptr TI)))), (11, .val (.sl TLitD)), (12, .val TI), (13, .val TI)]
noncomputable def scene_lights.t0 (x : ((List ((Int × Int × Int) × (Int × Int × Int) × Int)) × (List ((Int × Int × Int) × (Int × Int × Int) × (Int × Int × Int) × Int)) × (List (Int × Int × Int × Int)) × Int × (List (Int × Int × Int)) × ((Int × Int × Int) × (Int × Int × Int) × (Int × Int × Int) × Int × Int × Int) × Int × Int) × ErrD × (Int × Int) × (List (Int × Int × Int × Int)) × Int × Int × Unit) : T (Ex × ((List ((Int × Int × Int) × (Int × Int × Int) × Int)) × (List ((Int × Int × Int) × (Int × Int × Int) × (Int × Int × Int) × Int)) × (List (Int × Int × Int × Int)) × Int × (List (Int × Int × Int)) × ((Int × Int × Int) × (Int × Int × Int) × (Int × Int × Int) × Int × Int × Int) × Int × Int) × ErrD × (Int × Int) × (List (Int × Int × Int × Int)) × Int × Int × Unit) := T.ite (decide (x.2.2.2.2.2.1 < x.2.2.2.2.1)) (T.opt (lget x.2.2.2.1 x.2.2.2.2.2.1) fun y => T.ite (decide ((0 : Int) ≤ (0 : Int)) && decide ((0 : Int) ≤ x.2.2.2.2.2.1) && decide (x.2.2.2.2.2.1 ≤ (↑(List.length x.1.2.2.1) : Int))) (T.opt (ConL (List.take (Int.toNat x.2.2.2.2.2.1 - Int.toNat (0 : Int)) (List.drop (Int.toNat (0 : Int)) x.1.2.2.1), y)) fun y_1 => T.ite (decide (y.1 < (0 : Int)) || decide (y.1 ≥ (↑(List.length x.1.2.1) : Int)) || y_1) (T.opt (scene_broken ((2 : Int), W (x.2.2.2.2.2.1 + (1 : Int)))) fun y => T.ret (Ex.ret, x.1, y, x.2.2.1, x.2.2.2.1, x.2.2.2.2.1, x.2.2.2.2.2.1, ())) (T.opt (scene_within_1 (List.take (3 : Nat) [y.2.1, y.2.2.1, y.2.2.2], x.2.2.1)) fun y => T.ite (!y) (T.opt (scene_bound ((3 : Int), W (x.2.2.2.2.2.1 + (1 : Int)))) fun y => T.ret (Ex.ret, x.1, y, x.2.2.1, x.2.2.2.1, x.2.2.2.2.1, x.2.2.2.2.2.1, ())) (T.ret (Ex.normal, x.1, x.2.1, x.2.2.1, x.2.2.2.1, x.2.2.2.2.1, W (x.2.2.2.2.2.1 + (1 : Int)), ())))) T.fail) (T.ret (Ex.exit (0 : Nat), x.1, x.2.1, x.2.2.1, x.2.2.2.1, x.2.2.2.2.1, x.2.2.2.2.2.1, ()))
noncomputable def scene_lights.l0 (x : ((List ((Int × Int × Int) × (Int × Int × Int) × Int)) × (List ((Int × Int × Int) × (Int × Int × Int) × (Int × Int × Int) × Int)) × (List (Int × Int × Int × Int)) × Int × (List (Int × Int × Int)) × ((Int × Int × Int) × (Int × Int × Int) × (Int × Int × Int) × Int × Int × Int) × Int × Int) × ErrD × (Int × Int) × (List (Int × Int × Int × Int)) × Int × Int × Unit) : Option (Ex × ((List ((Int × Int × Int) × (Int × Int × Int) × Int)) × (List ((Int × Int × Int) × (Int × Int × Int) × (Int × Int × Int) × Int)) × (List (Int × Int × Int × Int)) × Int × (List (Int × Int × Int)) × ((Int × Int × Int) × (Int × Int × Int) × (Int × Int × Int) × Int × Int × Int) × Int × Int) × ErrD × (Int × Int) × (List (Int × Int × Int × Int)) × Int × Int × Unit) := (iterT scene_lights.t0 rounds x).run
theorem scene_lights.k0 : bodies 0 (lp Tryd.f49 []) = [.loop (loopIn 0 (lp Tryd.f49 []))] ∧ WP Tryd.prog 0 (.block 0 (.loop (loopIn 0 (lp Tryd.f49 [])))) (loopS scene_lights.L0 80 0 [.exit 0, .ret] scene_lights.l0) :=
  loop_tree (L := scene_lights.L0) (F := ({ quiet := (ext (ext (ext (ext (ext (ext (ext Xs 83 scene_within.q) 87 scene_lights_1.q) 79 ConL.q) 84 scene_broken.q) 77 scene_point.q) 82 scene_bound.q) 103 scene_within_1.q), deep := noDeep } : Fns)) (D := D0) (tab := []) (t := scene_lights.t0) mixed (quiet_ext (quiet_ext (quiet_ext (quiet_ext (quiet_ext (quiet_ext (quiet_ext Xok scene_within.ok) scene_lights_1.ok) ConL.ok) scene_broken.ok) scene_point.ok) scene_bound.ok) scene_within_1.ok) (deep_none _) (fun _ => rfl) (by kernel_rfl) (by kernel_rfl) trivial (fun x => by kernel_rfl)
def scene_lights.L2 : List (Nat × Lay) := [(2, .val TE), (3, .val (.clo 103 (.pair (.ptr TI) (.ptr TI)))), (64, .val (.sl TP)), (65, .val TI), (66, .val TI)]
noncomputable def scene_lights.t2 (x : ErrD × (Int × Int) × (List (Int × Int × Int)) × Int × Int × Unit) : T (Ex × ErrD × (Int × Int) × (List (Int × Int × Int)) × Int × Int × Unit) := T.ite (decide (x.2.2.2.2.1 < x.2.2.2.1)) (T.opt (lget x.2.2.1 x.2.2.2.2.1) fun y => T.opt (scene_within_1 (List.take (3 : Nat) [y.1, y.2.1, y.2.2], x.2.1)) fun y => T.ite (!y) (T.opt (scene_bound ((3 : Int), W (x.2.2.2.2.1 + (1 : Int)))) fun y => T.ret (Ex.ret, y, x.2.1, x.2.2.1, x.2.2.2.1, x.2.2.2.2.1, ())) (T.ret (Ex.normal, x.1, x.2.1, x.2.2.1, x.2.2.2.1, W (x.2.2.2.2.1 + (1 : Int)), ()))) (T.ret (Ex.exit (2 : Nat), x.1, x.2.1, x.2.2.1, x.2.2.2.1, x.2.2.2.2.1, ()))
noncomputable def scene_lights.l2 (x : ErrD × (Int × Int) × (List (Int × Int × Int)) × Int × Int × Unit) : Option (Ex × ErrD × (Int × Int) × (List (Int × Int × Int)) × Int × Int × Unit) := (iterT scene_lights.t2 rounds x).run
theorem scene_lights.k2 : bodies 2 (lp Tryd.f49 []) = [.loop (loopIn 2 (lp Tryd.f49 []))] ∧ WP Tryd.prog 0 (.block 2 (.loop (loopIn 2 (lp Tryd.f49 [])))) (loopS scene_lights.L2 80 2 [.exit 2, .ret] scene_lights.l2) :=
  loop_tree (L := scene_lights.L2) (F := ({ quiet := (ext (ext (ext (ext (ext (ext (ext Xs 83 scene_within.q) 87 scene_lights_1.q) 79 ConL.q) 84 scene_broken.q) 77 scene_point.q) 82 scene_bound.q) 103 scene_within_1.q), deep := noDeep } : Fns)) (D := D0) (tab := []) (t := scene_lights.t2) mixed (quiet_ext (quiet_ext (quiet_ext (quiet_ext (quiet_ext (quiet_ext (quiet_ext Xok scene_within.ok) scene_lights_1.ok) ConL.ok) scene_broken.ok) scene_point.ok) scene_bound.ok) scene_within_1.ok) (deep_none _) (fun _ => rfl) (by kernel_rfl) (by kernel_rfl) trivial (fun x => by kernel_rfl)
noncomputable def scene_lights.t (x : ((List ((Int × Int × Int) × (Int × Int × Int) × Int)) × (List ((Int × Int × Int) × (Int × Int × Int) × (Int × Int × Int) × Int)) × (List (Int × Int × Int × Int)) × Int × (List (Int × Int × Int)) × ((Int × Int × Int) × (Int × Int × Int) × (Int × Int × Int) × Int × Int × Int) × Int × Int)) : T (ErrD) := T.opt (scene_lights.l0 (x, ErrD.nil, ((0 : Int), (67108863 : Int)), x.2.2.1, (↑(List.length x.2.2.1) : Int), (0 : Int), ())) fun y => T.ite (exEq y.1 (Ex.exit (0 : Nat))) (T.ite (decide (y.2.1.2.2.2.1 < (0 : Int))) (T.opt (scene_bound ((3 : Int), (0 : Int))) fun y => T.ret y) (T.ite ((↑(List.length y.2.1.2.2.2.2.1) : Int) != W ((8 : Int) * y.2.1.2.2.2.1)) (T.opt (scene_broken ((14 : Int), (0 : Int))) fun y => T.ret y) (T.opt (scene_lights.l2 (y.2.2.1, y.2.2.2.1, y.2.1.2.2.2.2.1, (↑(List.length y.2.1.2.2.2.2.1) : Int), (0 : Int), ())) fun y => T.ite (exEq y.1 (Ex.exit (2 : Nat))) (T.ret ErrD.nil) (T.ite (exEq y.1 Ex.ret) (T.ret y.2.1) T.fail)))) (T.ite (exEq y.1 Ex.ret) (T.ret y.2.2.1) T.fail)
noncomputable def scene_lights (x : ((List ((Int × Int × Int) × (Int × Int × Int) × Int)) × (List ((Int × Int × Int) × (Int × Int × Int) × (Int × Int × Int) × Int)) × (List (Int × Int × Int × Int)) × Int × (List (Int × Int × Int)) × ((Int × Int × Int) × (Int × Int × Int) × (Int × Int × Int) × Int × Int × Int) × Int × Int)) : Option (ErrD) := (scene_lights.t x).run
noncomputable def scene_lights.q : List AV → T AV := entry [TScn] (outR [TE]) fun x => .opt (scene_lights x) .ret
theorem scene_lights.ok : FnOK Tryd.prog 49 scene_lights.q :=
  entry_call (ps := [TScn]) (rs := [TE]) (F := ({ quiet := (ext (ext (ext (ext (ext (ext (ext Xs 83 scene_within.q) 87 scene_lights_1.q) 79 ConL.q) 84 scene_broken.q) 77 scene_point.q) 82 scene_bound.q) 103 scene_within_1.q), deep := noDeep } : Fns)) (D := D0) (S := tabS [(0, loopS scene_lights.L0 80 0 [.exit 0, .ret] scene_lights.l0), (2, loopS scene_lights.L2 80 2 [.exit 2, .ret] scene_lights.l2)]) (t := scene_lights.t) mixed (quiet_ext (quiet_ext (quiet_ext (quiet_ext (quiet_ext (quiet_ext (quiet_ext Xok scene_within.ok) scene_lights_1.ok) ConL.ok) scene_broken.ok) scene_point.ok) scene_bound.ok) scene_within_1.ok) (deep_none _) Tryd.func49 (by kernel_rfl) (sok_fn ⟨scene_lights.k0, scene_lights.k2, trivial⟩) (by kernel_rfl) (fun x => by kernel_rfl)
end Go.Proofs.Pen

namespace Go.Proofs.Pen
open Go Go.Proofs
noncomputable def scene_camera.t (x : ((List ((Int × Int × Int) × (Int × Int × Int) × Int)) × (List ((Int × Int × Int) × (Int × Int × Int) × (Int × Int × Int) × Int)) × (List (Int × Int × Int × Int)) × Int × (List (Int × Int × Int)) × ((Int × Int × Int) × (Int × Int × Int) × (Int × Int × Int) × Int × Int × Int) × Int × Int)) : T (ErrD) := T.opt (scene_within_1 (List.take (3 : Nat) [x.2.2.2.2.2.1.1.1, x.2.2.2.2.2.1.1.2.1, x.2.2.2.2.2.1.1.2.2], (-1048576 : Int), (1048576 : Int))) fun y => T.ite (!y) (T.opt (scene_bound ((3 : Int), (0 : Int))) fun y => T.ret y) (T.opt (scene_within_1 (List.take (3 : Nat) [x.2.2.2.2.2.1.2.1.1, x.2.2.2.2.2.1.2.1.2.1, x.2.2.2.2.2.1.2.1.2.2], (-1048576 : Int), (1048576 : Int))) fun y => T.ite (!y) (T.opt (scene_bound ((3 : Int), (0 : Int))) fun y => T.ret y) (T.opt (scene_within_1 (List.take (3 : Nat) [x.2.2.2.2.2.1.2.2.1.1, x.2.2.2.2.2.1.2.2.1.2.1, x.2.2.2.2.2.1.2.2.1.2.2], (-1048576 : Int), (1048576 : Int))) fun y => T.ite (!y) (T.opt (scene_bound ((3 : Int), (0 : Int))) fun y => T.ret y) (T.opt (scene_within_1 (List.take (2 : Nat) [x.2.2.2.2.2.1.2.2.2.1, x.2.2.2.2.2.1.2.2.2.2.2], (1 : Int), (1048576 : Int))) fun y => T.ite (!y) (T.opt (scene_bound ((3 : Int), (0 : Int))) fun y => T.ret y) (T.opt (scene_within_1 ([x.2.2.2.2.2.1.2.2.2.2.1], (0 : Int), (1048576 : Int))) fun y => T.ite (!y) (T.opt (scene_bound ((3 : Int), (0 : Int))) fun y => T.ret y) (T.ite (W (W (W (x.2.2.2.2.2.1.2.1.2.1 - x.2.2.2.2.2.1.1.2.1) * x.2.2.2.2.2.1.2.2.1.2.2) - W (W (x.2.2.2.2.2.1.2.1.2.2 - x.2.2.2.2.2.1.1.2.2) * x.2.2.2.2.2.1.2.2.1.2.1)) == (0 : Int) && (W (W (W (x.2.2.2.2.2.1.2.1.2.2 - x.2.2.2.2.2.1.1.2.2) * x.2.2.2.2.2.1.2.2.1.1) - W (W (x.2.2.2.2.2.1.2.1.1 - x.2.2.2.2.2.1.1.1) * x.2.2.2.2.2.1.2.2.1.2.2)) == (0 : Int) && W (W (W (x.2.2.2.2.2.1.2.1.1 - x.2.2.2.2.2.1.1.1) * x.2.2.2.2.2.1.2.2.1.2.1) - W (W (x.2.2.2.2.2.1.2.1.2.1 - x.2.2.2.2.2.1.1.2.1) * x.2.2.2.2.2.1.2.2.1.1)) == (0 : Int))) (T.opt (scene_broken ((13 : Int), (0 : Int))) fun y => T.ret y) (T.ite (x.2.2.2.2.2.2.1 != (1 : Int) && x.2.2.2.2.2.2.1 != (2 : Int)) (T.opt (scene_broken ((2 : Int), (0 : Int))) fun y => T.ret y) (T.opt (scene_within_1 ([x.2.2.2.2.2.2.2], (1 : Int), (8192 : Int))) fun y => T.ite (!y) (T.opt (scene_bound ((3 : Int), (0 : Int))) fun y => T.ret y) (T.ret ErrD.nil))))))))
noncomputable def scene_camera (x : ((List ((Int × Int × Int) × (Int × Int × Int) × Int)) × (List ((Int × Int × Int) × (Int × Int × Int) × (Int × Int × Int) × Int)) × (List (Int × Int × Int × Int)) × Int × (List (Int × Int × Int)) × ((Int × Int × Int) × (Int × Int × Int) × (Int × Int × Int) × Int × Int × Int) × Int × Int)) : Option (ErrD) := (scene_camera.t x).run
noncomputable def scene_camera.q : List AV → T AV := entry [TScn] (outR [TE]) fun x => .opt (scene_camera x) .ret
theorem scene_camera.ok : FnOK Tryd.prog 50 scene_camera.q :=
  entry_call (ps := [TScn]) (rs := [TE]) (F := ({ quiet := (ext (ext (ext (ext (ext (ext (ext Xs 83 scene_within.q) 77 scene_point.q) 82 scene_bound.q) 86 scene_less.q) 85 scene_flat.q) 84 scene_broken.q) 103 scene_within_1.q), deep := noDeep } : Fns)) (D := D0) (S := tabS []) (t := scene_camera.t) mixed (quiet_ext (quiet_ext (quiet_ext (quiet_ext (quiet_ext (quiet_ext (quiet_ext Xok scene_within.ok) scene_point.ok) scene_bound.ok) scene_less.ok) scene_flat.ok) scene_broken.ok) scene_within_1.ok) (deep_none _) Tryd.func50 (by kernel_rfl) (sok_fn trivial) (by kernel_rfl) (fun x => by kernel_rfl)
end Go.Proofs.Pen

namespace Go.Proofs.Pen
open Go Go.Proofs
noncomputable def scene_Check.t (x : ((List ((Int × Int × Int) × (Int × Int × Int) × Int)) × (List ((Int × Int × Int) × (Int × Int × Int) × (Int × Int × Int) × Int)) × (List (Int × Int × Int × Int)) × Int × (List (Int × Int × Int)) × ((Int × Int × Int) × (Int × Int × Int) × (Int × Int × Int) × Int × Int × Int) × Int × Int)) : T (ErrD) := T.opt (scene_many x) fun y => T.ite (!y.isNil) (T.ret y) (T.opt (scene_mats x) fun y => T.ite (!y.isNil) (T.ret y) (T.opt (scene_tris x) fun y => T.ite (!y.isNil) (T.ret y) (T.opt (scene_lights x) fun y => T.ite (!y.isNil) (T.ret y) (T.opt (scene_camera x) fun y => T.ret y))))
noncomputable def scene_Check (x : ((List ((Int × Int × Int) × (Int × Int × Int) × Int)) × (List ((Int × Int × Int) × (Int × Int × Int) × (Int × Int × Int) × Int)) × (List (Int × Int × Int × Int)) × Int × (List (Int × Int × Int)) × ((Int × Int × Int) × (Int × Int × Int) × (Int × Int × Int) × Int × Int × Int) × Int × Int)) : Option (ErrD) := (scene_Check.t x).run
noncomputable def scene_Check.q : List AV → T AV := entry [TScn] (outR [TE]) fun x => .opt (scene_Check x) .ret
theorem scene_Check.ok : FnOK Tryd.prog 25 scene_Check.q :=
  entry_call (ps := [TScn]) (rs := [TE]) (F := ({ quiet := (ext (ext (ext (ext (ext (ext (ext Xs 46 scene_many.q) 47 scene_mats.q) 48 scene_tris.q) 49 scene_lights.q) 50 scene_camera.q) 87 scene_lights_1.q) 103 scene_within_1.q), deep := noDeep } : Fns)) (D := D0) (S := tabS []) (t := scene_Check.t) mixed (quiet_ext (quiet_ext (quiet_ext (quiet_ext (quiet_ext (quiet_ext (quiet_ext Xok scene_many.ok) scene_mats.ok) scene_tris.ok) scene_lights.ok) scene_camera.ok) scene_lights_1.ok) scene_within_1.ok) (deep_none _) Tryd.func25 (by kernel_rfl) (sok_fn trivial) (by kernel_rfl) (fun x => by kernel_rfl)
end Go.Proofs.Pen

namespace Go.Proofs.Pen
open Go Go.Proofs
noncomputable def ref22_bound.t (x : Int × Int) : T ((Int × Int × Int)) := T.ret ((10 : Int), x)
noncomputable def ref22_bound.q : List AV → T AV := entry [TI, TI] (outR [TP]) ref22_bound.t
theorem ref22_bound.ok : FnOK Tryd.prog 51 ref22_bound.q :=
  entry_in (ps := [TI, TI]) (rs := [TP]) (F := ({ quiet := Xs, deep := noDeep } : Fns)) (D := D0) (S := tabS []) (t := ref22_bound.t) mixed Xok (deep_none _) Tryd.func51 (by kernel_rfl) (sok_fn trivial) (by kernel_rfl) (fun x => by kernel_rfl)
end Go.Proofs.Pen

namespace Go.Proofs.Pen
open Go Go.Proofs
noncomputable def ref22_In.t (x : (Int × Int × Int) × Int × Int) : T (Bool) := T.ret (decide (x.1.1 ≥ x.2.1) && decide (x.1.1 ≤ x.2.2) && decide (x.1.2.1 ≥ x.2.1) && decide (x.1.2.1 ≤ x.2.2) && decide (x.1.2.2 ≥ x.2.1) && decide (x.1.2.2 ≤ x.2.2))
noncomputable def ref22_In.q : List AV → T AV := entry [TP, TI, TI] (outR [.bool]) ref22_In.t
theorem ref22_In.ok : FnOK Tryd.prog 88 ref22_In.q :=
  entry_in (ps := [TP, TI, TI]) (rs := [.bool]) (F := ({ quiet := Xs, deep := noDeep } : Fns)) (D := D0) (S := tabS []) (t := ref22_In.t) mixed Xok (deep_none _) Tryd.func88 (by kernel_rfl) (sok_fn trivial) (by kernel_rfl) (fun x => by kernel_rfl)
end Go.Proofs.Pen

namespace Go.Proofs.Pen
open Go Go.Proofs
noncomputable def ref22_broken.t (x : Int × Int) : T ((Int × Int × Int)) := T.ret ((11 : Int), x)
noncomputable def ref22_broken.q : List AV → T AV := entry [TI, TI] (outR [TP]) ref22_broken.t
theorem ref22_broken.ok : FnOK Tryd.prog 89 ref22_broken.q :=
  entry_in (ps := [TI, TI]) (rs := [TP]) (F := ({ quiet := Xs, deep := noDeep } : Fns)) (D := D0) (S := tabS []) (t := ref22_broken.t) mixed Xok (deep_none _) Tryd.func89 (by kernel_rfl) (sok_fn trivial) (by kernel_rfl) (fun x => by kernel_rfl)
end Go.Proofs.Pen

namespace Go.Proofs.Pen
open Go Go.Proofs
noncomputable def ref22_mat.t (x : ((Int × Int × Int) × (Int × Int × Int) × Int) × Int) : T ((Int × Int × Int)) := T.ite (decide (x.1.2.2 < (1 : Int)) || decide (x.1.2.2 > (1024 : Int))) (T.ret ((10 : Int), (3 : Int), x.2)) (T.ite (!(decide (x.1.1.1 ≥ (0 : Int)) && decide (x.1.1.1 ≤ (9223372036854775807 : Int)) && decide (x.1.1.2.1 ≥ (0 : Int)) && decide (x.1.1.2.1 ≤ (9223372036854775807 : Int)) && decide (x.1.1.2.2 ≥ (0 : Int)) && decide (x.1.1.2.2 ≤ (9223372036854775807 : Int)))) (T.ret ((10 : Int), (3 : Int), x.2)) (T.ite (!(decide (x.1.2.1.1 ≥ (0 : Int)) && decide (x.1.2.1.1 ≤ (9223372036854775807 : Int)) && decide (x.1.2.1.2.1 ≥ (0 : Int)) && decide (x.1.2.1.2.1 ≤ (9223372036854775807 : Int)) && decide (x.1.2.1.2.2 ≥ (0 : Int)) && decide (x.1.2.1.2.2 ≤ (9223372036854775807 : Int)))) (T.ret ((10 : Int), (3 : Int), x.2)) (T.ite (!(decide (x.1.1.1 ≥ (0 : Int)) && decide (x.1.1.1 ≤ (1023 : Int)) && decide (x.1.1.2.1 ≥ (0 : Int)) && decide (x.1.1.2.1 ≤ (1023 : Int)) && decide (x.1.1.2.2 ≥ (0 : Int)) && decide (x.1.1.2.2 ≤ (1023 : Int))) || decide (x.1.2.1.1 > W ((1023 : Int) - x.1.1.1)) || decide (x.1.2.1.2.1 > W ((1023 : Int) - x.1.1.2.1)) || decide (x.1.2.1.2.2 > W ((1023 : Int) - x.1.1.2.2))) (T.ret ((11 : Int), (4 : Int), x.2)) (T.ret ((0 : Int), (0 : Int), (0 : Int))))))
noncomputable def ref22_mat (x : ((Int × Int × Int) × (Int × Int × Int) × Int) × Int) : Option ((Int × Int × Int)) := (ref22_mat.t x).run
noncomputable def ref22_mat.q : List AV → T AV := entry [TMatD, TI] (outR [TP]) fun x => .opt (ref22_mat x) .ret
theorem ref22_mat.ok : FnOK Tryd.prog 52 ref22_mat.q :=
  entry_call (ps := [TMatD, TI]) (rs := [TP]) (F := ({ quiet := (ext (ext (ext Xs 88 ref22_In.q) 51 ref22_bound.q) 89 ref22_broken.q), deep := noDeep } : Fns)) (D := D0) (S := tabS []) (t := ref22_mat.t) mixed (quiet_ext (quiet_ext (quiet_ext Xok ref22_In.ok) ref22_bound.ok) ref22_broken.ok) (deep_none _) Tryd.func52 (by kernel_rfl) (sok_fn trivial) (by kernel_rfl) (fun x => by kernel_rfl)
end Go.Proofs.Pen

namespace Go.Proofs.Pen
open Go Go.Proofs
noncomputable def ref22_Flat.t (x : (Int × Int × Int) × (Int × Int × Int) × (Int × Int × Int) × (Int × Int × Int)) : T (Bool) := T.ret (W (W (x.1.2.1 - x.2.1.2.1) * W (x.2.2.1.2.2 - x.2.2.2.2.2)) == W (W (x.1.2.2 - x.2.1.2.2) * W (x.2.2.1.2.1 - x.2.2.2.2.1)) && W (W (x.1.2.2 - x.2.1.2.2) * W (x.2.2.1.1 - x.2.2.2.1)) == W (W (x.1.1 - x.2.1.1) * W (x.2.2.1.2.2 - x.2.2.2.2.2)) && W (W (x.1.1 - x.2.1.1) * W (x.2.2.1.2.1 - x.2.2.2.2.1)) == W (W (x.1.2.1 - x.2.1.2.1) * W (x.2.2.1.1 - x.2.2.2.1)))
noncomputable def ref22_Flat.q : List AV → T AV := entry [TP, TP, TP, TP] (outR [.bool]) ref22_Flat.t
theorem ref22_Flat.ok : FnOK Tryd.prog 90 ref22_Flat.q :=
  entry_in (ps := [TP, TP, TP, TP]) (rs := [.bool]) (F := ({ quiet := Xs, deep := noDeep } : Fns)) (D := D0) (S := tabS []) (t := ref22_Flat.t) mixed Xok (deep_none _) Tryd.func90 (by kernel_rfl) (sok_fn trivial) (by kernel_rfl) (fun x => by kernel_rfl)
end Go.Proofs.Pen

namespace Go.Proofs.Pen
open Go Go.Proofs
noncomputable def ref22_tri.t (x : ((Int × Int × Int) × (Int × Int × Int) × (Int × Int × Int) × Int) × Int × Int) : T ((Int × Int × Int)) := T.ite (decide (x.1.2.2.2 < (0 : Int)) || decide (x.1.2.2.2 ≥ x.2.1)) (T.ret ((11 : Int), (2 : Int), x.2.2)) (T.ite (!(decide (x.1.1.1 ≥ (-1048576 : Int)) && decide (x.1.1.1 ≤ (1048576 : Int)) && decide (x.1.1.2.1 ≥ (-1048576 : Int)) && decide (x.1.1.2.1 ≤ (1048576 : Int)) && decide (x.1.1.2.2 ≥ (-1048576 : Int)) && decide (x.1.1.2.2 ≤ (1048576 : Int)))) (T.ret ((10 : Int), (3 : Int), x.2.2)) (T.ite (!(decide (x.1.2.1.1 ≥ (-1048576 : Int)) && decide (x.1.2.1.1 ≤ (1048576 : Int)) && decide (x.1.2.1.2.1 ≥ (-1048576 : Int)) && decide (x.1.2.1.2.1 ≤ (1048576 : Int)) && decide (x.1.2.1.2.2 ≥ (-1048576 : Int)) && decide (x.1.2.1.2.2 ≤ (1048576 : Int)))) (T.ret ((10 : Int), (3 : Int), x.2.2)) (T.ite (!(decide (x.1.2.2.1.1 ≥ (-1048576 : Int)) && decide (x.1.2.2.1.1 ≤ (1048576 : Int)) && decide (x.1.2.2.1.2.1 ≥ (-1048576 : Int)) && decide (x.1.2.2.1.2.1 ≤ (1048576 : Int)) && decide (x.1.2.2.1.2.2 ≥ (-1048576 : Int)) && decide (x.1.2.2.1.2.2 ≤ (1048576 : Int)))) (T.ret ((10 : Int), (3 : Int), x.2.2)) (T.ite (W (W (x.1.2.1.2.1 - x.1.1.2.1) * W (x.1.2.2.1.2.2 - x.1.1.2.2)) == W (W (x.1.2.1.2.2 - x.1.1.2.2) * W (x.1.2.2.1.2.1 - x.1.1.2.1)) && W (W (x.1.2.1.2.2 - x.1.1.2.2) * W (x.1.2.2.1.1 - x.1.1.1)) == W (W (x.1.2.1.1 - x.1.1.1) * W (x.1.2.2.1.2.2 - x.1.1.2.2)) && W (W (x.1.2.1.1 - x.1.1.1) * W (x.1.2.2.1.2.1 - x.1.1.2.1)) == W (W (x.1.2.1.2.1 - x.1.1.2.1) * W (x.1.2.2.1.1 - x.1.1.1))) (T.ret ((11 : Int), (13 : Int), x.2.2)) (T.ret ((0 : Int), (0 : Int), (0 : Int)))))))
noncomputable def ref22_tri (x : ((Int × Int × Int) × (Int × Int × Int) × (Int × Int × Int) × Int) × Int × Int) : Option ((Int × Int × Int)) := (ref22_tri.t x).run
noncomputable def ref22_tri.q : List AV → T AV := entry [TTriD, TI, TI] (outR [TP]) fun x => .opt (ref22_tri x) .ret
theorem ref22_tri.ok : FnOK Tryd.prog 53 ref22_tri.q :=
  entry_call (ps := [TTriD, TI, TI]) (rs := [TP]) (F := ({ quiet := (ext (ext (ext (ext Xs 89 ref22_broken.q) 88 ref22_In.q) 51 ref22_bound.q) 90 ref22_Flat.q), deep := noDeep } : Fns)) (D := D0) (S := tabS []) (t := ref22_tri.t) mixed (quiet_ext (quiet_ext (quiet_ext (quiet_ext Xok ref22_broken.ok) ref22_In.ok) ref22_bound.ok) ref22_Flat.ok) (deep_none _) Tryd.func53 (by kernel_rfl) (sok_fn trivial) (by kernel_rfl) (fun x => by kernel_rfl)
end Go.Proofs.Pen

namespace Go.Proofs.Pen
open Go Go.Proofs
def ref22_light.L0 : List (Nat × Lay) := [(0, .val (.sl TLitD)), (1, .val TI), (2, .val TI), (6, .box TP), (7, .val .bool), (8, .val TI)]
noncomputable def ref22_light.t0 (x : (List (Int × Int × Int × Int)) × Int × Int × (Int × Int × Int) × Bool × Int × Unit) : T (Ex × (List (Int × Int × Int × Int)) × Int × Int × (Int × Int × Int) × Bool × Int × Unit) := T.ite (decide (x.2.2.2.2.2.1 < x.2.1)) (T.ite x.2.2.2.2.1 (T.ret (Ex.normal, x.1, x.2.1, x.2.2.1, x.2.2.2.1, true, W (x.2.2.2.2.2.1 + (1 : Int)), ())) (T.opt (lget x.1 x.2.2.2.2.2.1) fun y => T.opt (lget x.1 x.2.1) fun y_1 => T.ret (Ex.normal, x.1, x.2.1, x.2.2.1, x.2.2.2.1, y.1 == y_1.fst, W (x.2.2.2.2.2.1 + (1 : Int)), ()))) (T.ret (Ex.exit (0 : Nat), x.1, x.2.1, x.2.2.1, x.2.2.2.1, x.2.2.2.2.1, x.2.2.2.2.2.1, ()))
noncomputable def ref22_light.l0 (x : (List (Int × Int × Int × Int)) × Int × Int × (Int × Int × Int) × Bool × Int × Unit) : Option (Ex × (List (Int × Int × Int × Int)) × Int × Int × (Int × Int × Int) × Bool × Int × Unit) := (iterT ref22_light.t0 rounds x).run
theorem ref22_light.k0 : bodies 0 (lp Tryd.f54 []) = [.loop (loopIn 0 (lp Tryd.f54 []))] ∧ WP Tryd.prog 0 (.block 0 (.loop (loopIn 0 (lp Tryd.f54 [])))) (loopS ref22_light.L0 60 0 [.exit 0] ref22_light.l0) :=
  loop_tree (L := ref22_light.L0) (F := ({ quiet := (ext (ext (ext Xs 89 ref22_broken.q) 88 ref22_In.q) 51 ref22_bound.q), deep := noDeep } : Fns)) (D := D0) (tab := []) (t := ref22_light.t0) mixed (quiet_ext (quiet_ext (quiet_ext Xok ref22_broken.ok) ref22_In.ok) ref22_bound.ok) (deep_none _) (fun _ => rfl) (by kernel_rfl) (by kernel_rfl) trivial (fun x => by kernel_rfl)
noncomputable def ref22_light.t (x : (List (Int × Int × Int × Int)) × Int × Int) : T ((Int × Int × Int)) := T.opt (ref22_light.l0 (x.1, x.2.1, x.2.2, ((0 : Int), (0 : Int), (0 : Int)), false, (0 : Int), ())) fun y => T.ite (exEq y.1 (Ex.exit (0 : Nat))) (T.opt (lget y.2.1 y.2.2.1) fun y_1 => T.ite (decide (y_1.fst < (0 : Int))) (T.ret ((11 : Int), (2 : Int), W (y.2.2.1 + (1 : Int)))) (T.opt (lget y.2.1 y.2.2.1) fun y_2 => T.ite (decide (y_2.fst ≥ y.2.2.2.1) || y.2.2.2.2.2.1) (T.ret ((11 : Int), (2 : Int), W (y.2.2.1 + (1 : Int)))) (T.opt (lget y.2.1 y.2.2.1) fun y_3 => T.ite (!(decide (y_3.snd.fst ≥ (0 : Int)) && decide (y_3.snd.fst ≤ (67108863 : Int)) && decide (y_3.snd.snd.fst ≥ (0 : Int)) && decide (y_3.snd.snd.fst ≤ (67108863 : Int)) && decide (y_3.snd.snd.snd ≥ (0 : Int)) && decide (y_3.snd.snd.snd ≤ (67108863 : Int)))) (T.ret ((10 : Int), (3 : Int), W (y.2.2.1 + (1 : Int)))) (T.ret ((0 : Int), (0 : Int), (0 : Int)))))) T.fail
noncomputable def ref22_light (x : (List (Int × Int × Int × Int)) × Int × Int) : Option ((Int × Int × Int)) := (ref22_light.t x).run
noncomputable def ref22_light.q : List AV → T AV := entry [(.sl TLitD), TI, TI] (outR [TP]) fun x => .opt (ref22_light x) .ret
theorem ref22_light.ok : FnOK Tryd.prog 54 ref22_light.q :=
  entry_call (ps := [(.sl TLitD), TI, TI]) (rs := [TP]) (F := ({ quiet := (ext (ext (ext Xs 89 ref22_broken.q) 88 ref22_In.q) 51 ref22_bound.q), deep := noDeep } : Fns)) (D := D0) (S := tabS [(0, loopS ref22_light.L0 60 0 [.exit 0] ref22_light.l0)]) (t := ref22_light.t) mixed (quiet_ext (quiet_ext (quiet_ext Xok ref22_broken.ok) ref22_In.ok) ref22_bound.ok) (deep_none _) Tryd.func54 (by kernel_rfl) (sok_fn ⟨ref22_light.k0, trivial⟩) (by kernel_rfl) (fun x => by kernel_rfl)
end Go.Proofs.Pen

namespace Go.Proofs.Pen
open Go Go.Proofs
def ref22_rest.L0 : List (Nat × Lay) := [(1, .box TScn), (2, .box TP), (3, .val TI)]
noncomputable def ref22_rest.t0 (x : ((List ((Int × Int × Int) × (Int × Int × Int) × Int)) × (List ((Int × Int × Int) × (Int × Int × Int) × (Int × Int × Int) × Int)) × (List (Int × Int × Int × Int)) × Int × (List (Int × Int × Int)) × ((Int × Int × Int) × (Int × Int × Int) × (Int × Int × Int) × Int × Int × Int) × Int × Int) × (Int × Int × Int) × Int × Unit) : T (Ex × ((List ((Int × Int × Int) × (Int × Int × Int) × Int)) × (List ((Int × Int × Int) × (Int × Int × Int) × (Int × Int × Int) × Int)) × (List (Int × Int × Int × Int)) × Int × (List (Int × Int × Int)) × ((Int × Int × Int) × (Int × Int × Int) × (Int × Int × Int) × Int × Int × Int) × Int × Int) × (Int × Int × Int) × Int × Unit) := T.ite (decide (x.2.2.1 < (↑(List.length x.1.2.2.2.2.1) : Int))) (T.opt (lget x.1.2.2.2.2.1 x.2.2.1) fun y => T.ite (!(decide (y.1 ≥ (0 : Int)) && decide (y.1 ≤ (67108863 : Int)) && decide (y.2.1 ≥ (0 : Int)) && decide (y.2.1 ≤ (67108863 : Int)) && decide (y.2.2 ≥ (0 : Int)) && decide (y.2.2 ≤ (67108863 : Int)))) (T.ret (Ex.ret, x.1, ((10 : Int), (3 : Int), W (x.2.2.1 + (1 : Int))), x.2.2.1, ())) (T.ret (Ex.normal, x.1, x.2.1, W (x.2.2.1 + (1 : Int)), ()))) (T.ret (Ex.exit (0 : Nat), x.1, x.2.1, x.2.2.1, ()))
noncomputable def ref22_rest.l0 (x : ((List ((Int × Int × Int) × (Int × Int × Int) × Int)) × (List ((Int × Int × Int) × (Int × Int × Int) × (Int × Int × Int) × Int)) × (List (Int × Int × Int × Int)) × Int × (List (Int × Int × Int)) × ((Int × Int × Int) × (Int × Int × Int) × (Int × Int × Int) × Int × Int × Int) × Int × Int) × (Int × Int × Int) × Int × Unit) : Option (Ex × ((List ((Int × Int × Int) × (Int × Int × Int) × Int)) × (List ((Int × Int × Int) × (Int × Int × Int) × (Int × Int × Int) × Int)) × (List (Int × Int × Int × Int)) × Int × (List (Int × Int × Int)) × ((Int × Int × Int) × (Int × Int × Int) × (Int × Int × Int) × Int × Int × Int) × Int × Int) × (Int × Int × Int) × Int × Unit) := (iterT ref22_rest.t0 rounds x).run
theorem ref22_rest.k0 : bodies 0 (lp Tryd.f55 []) = [.loop (loopIn 0 (lp Tryd.f55 []))] ∧ WP Tryd.prog 0 (.block 0 (.loop (loopIn 0 (lp Tryd.f55 [])))) (loopS ref22_rest.L0 111 0 [.exit 0, .ret] ref22_rest.l0) :=
  loop_tree (L := ref22_rest.L0) (F := ({ quiet := (ext (ext (ext (ext Xs 51 ref22_bound.q) 89 ref22_broken.q) 88 ref22_In.q) 90 ref22_Flat.q), deep := noDeep } : Fns)) (D := D0) (tab := []) (t := ref22_rest.t0) mixed (quiet_ext (quiet_ext (quiet_ext (quiet_ext Xok ref22_bound.ok) ref22_broken.ok) ref22_In.ok) ref22_Flat.ok) (deep_none _) (fun _ => rfl) (by kernel_rfl) (by kernel_rfl) trivial (fun x => by kernel_rfl)
noncomputable def ref22_rest.t (x : ((List ((Int × Int × Int) × (Int × Int × Int) × Int)) × (List ((Int × Int × Int) × (Int × Int × Int) × (Int × Int × Int) × Int)) × (List (Int × Int × Int × Int)) × Int × (List (Int × Int × Int)) × ((Int × Int × Int) × (Int × Int × Int) × (Int × Int × Int) × Int × Int × Int) × Int × Int)) : T ((Int × Int × Int)) := T.ite (decide (x.2.2.2.1 < (0 : Int))) (T.ret ((10 : Int), (3 : Int), (0 : Int))) (T.ite ((↑(List.length x.2.2.2.2.1) : Int) != W ((8 : Int) * x.2.2.2.1)) (T.ret ((11 : Int), (14 : Int), (0 : Int))) (T.opt (ref22_rest.l0 (x, ((0 : Int), (0 : Int), (0 : Int)), (0 : Int), ())) fun y => T.ite (exEq y.1 (Ex.exit (0 : Nat))) (T.ite (!(decide (y.2.1.2.2.2.2.2.1.1.1 ≥ (-1048576 : Int)) && decide (y.2.1.2.2.2.2.2.1.1.1 ≤ (1048576 : Int)) && decide (y.2.1.2.2.2.2.2.1.1.2.1 ≥ (-1048576 : Int)) && decide (y.2.1.2.2.2.2.2.1.1.2.1 ≤ (1048576 : Int)) && decide (y.2.1.2.2.2.2.2.1.1.2.2 ≥ (-1048576 : Int)) && decide (y.2.1.2.2.2.2.2.1.1.2.2 ≤ (1048576 : Int)))) (T.ret ((10 : Int), (3 : Int), (0 : Int))) (T.ite (!(decide (y.2.1.2.2.2.2.2.1.2.1.1 ≥ (-1048576 : Int)) && decide (y.2.1.2.2.2.2.2.1.2.1.1 ≤ (1048576 : Int)) && decide (y.2.1.2.2.2.2.2.1.2.1.2.1 ≥ (-1048576 : Int)) && decide (y.2.1.2.2.2.2.2.1.2.1.2.1 ≤ (1048576 : Int)) && decide (y.2.1.2.2.2.2.2.1.2.1.2.2 ≥ (-1048576 : Int)) && decide (y.2.1.2.2.2.2.2.1.2.1.2.2 ≤ (1048576 : Int)))) (T.ret ((10 : Int), (3 : Int), (0 : Int))) (T.ite (!(decide (y.2.1.2.2.2.2.2.1.2.2.1.1 ≥ (-1048576 : Int)) && decide (y.2.1.2.2.2.2.2.1.2.2.1.1 ≤ (1048576 : Int)) && decide (y.2.1.2.2.2.2.2.1.2.2.1.2.1 ≥ (-1048576 : Int)) && decide (y.2.1.2.2.2.2.2.1.2.2.1.2.1 ≤ (1048576 : Int)) && decide (y.2.1.2.2.2.2.2.1.2.2.1.2.2 ≥ (-1048576 : Int)) && decide (y.2.1.2.2.2.2.2.1.2.2.1.2.2 ≤ (1048576 : Int))) || decide (y.2.1.2.2.2.2.2.1.2.2.2.1 < (1 : Int)) || decide (y.2.1.2.2.2.2.2.1.2.2.2.1 > (1048576 : Int)) || decide (y.2.1.2.2.2.2.2.1.2.2.2.2.1 < (0 : Int)) || decide (y.2.1.2.2.2.2.2.1.2.2.2.2.1 > (1048576 : Int)) || decide (y.2.1.2.2.2.2.2.1.2.2.2.2.2 < (1 : Int)) || decide (y.2.1.2.2.2.2.2.1.2.2.2.2.2 > (1048576 : Int))) (T.ret ((10 : Int), (3 : Int), (0 : Int))) (T.ite (W (W (y.2.1.2.2.2.2.2.1.2.1.2.1 - y.2.1.2.2.2.2.2.1.1.2.1) * W (y.2.1.2.2.2.2.2.1.2.2.1.2.2 - (0 : Int))) == W (W (y.2.1.2.2.2.2.2.1.2.1.2.2 - y.2.1.2.2.2.2.2.1.1.2.2) * W (y.2.1.2.2.2.2.2.1.2.2.1.2.1 - (0 : Int))) && W (W (y.2.1.2.2.2.2.2.1.2.1.2.2 - y.2.1.2.2.2.2.2.1.1.2.2) * W (y.2.1.2.2.2.2.2.1.2.2.1.1 - (0 : Int))) == W (W (y.2.1.2.2.2.2.2.1.2.1.1 - y.2.1.2.2.2.2.2.1.1.1) * W (y.2.1.2.2.2.2.2.1.2.2.1.2.2 - (0 : Int))) && W (W (y.2.1.2.2.2.2.2.1.2.1.1 - y.2.1.2.2.2.2.2.1.1.1) * W (y.2.1.2.2.2.2.2.1.2.2.1.2.1 - (0 : Int))) == W (W (y.2.1.2.2.2.2.2.1.2.1.2.1 - y.2.1.2.2.2.2.2.1.1.2.1) * W (y.2.1.2.2.2.2.2.1.2.2.1.1 - (0 : Int)))) (T.ret ((11 : Int), (13 : Int), (0 : Int))) (T.ite (y.2.1.2.2.2.2.2.2.1 != (1 : Int) && y.2.1.2.2.2.2.2.2.1 != (2 : Int)) (T.ret ((11 : Int), (2 : Int), (0 : Int))) (T.ite (decide (y.2.1.2.2.2.2.2.2.2 < (1 : Int)) || decide (y.2.1.2.2.2.2.2.2.2 > (8192 : Int))) (T.ret ((10 : Int), (3 : Int), (0 : Int))) (T.ret ((0 : Int), (0 : Int), (0 : Int))))))))) (T.ite (exEq y.1 Ex.ret) (T.ret y.2.2.1) T.fail)))
noncomputable def ref22_rest (x : ((List ((Int × Int × Int) × (Int × Int × Int) × Int)) × (List ((Int × Int × Int) × (Int × Int × Int) × (Int × Int × Int) × Int)) × (List (Int × Int × Int × Int)) × Int × (List (Int × Int × Int)) × ((Int × Int × Int) × (Int × Int × Int) × (Int × Int × Int) × Int × Int × Int) × Int × Int)) : Option ((Int × Int × Int)) := (ref22_rest.t x).run
noncomputable def ref22_rest.q : List AV → T AV := entry [TScn] (outR [TP]) fun x => .opt (ref22_rest x) .ret
theorem ref22_rest.ok : FnOK Tryd.prog 55 ref22_rest.q :=
  entry_call (ps := [TScn]) (rs := [TP]) (F := ({ quiet := (ext (ext (ext (ext Xs 51 ref22_bound.q) 89 ref22_broken.q) 88 ref22_In.q) 90 ref22_Flat.q), deep := noDeep } : Fns)) (D := D0) (S := tabS [(0, loopS ref22_rest.L0 111 0 [.exit 0, .ret] ref22_rest.l0)]) (t := ref22_rest.t) mixed (quiet_ext (quiet_ext (quiet_ext (quiet_ext Xok ref22_bound.ok) ref22_broken.ok) ref22_In.ok) ref22_Flat.ok) (deep_none _) Tryd.func55 (by kernel_rfl) (sok_fn ⟨ref22_rest.k0, trivial⟩) (by kernel_rfl) (fun x => by kernel_rfl)
end Go.Proofs.Pen

namespace Go.Proofs.Pen
open Go Go.Proofs
def ref22_Check.L0 : List (Nat × Lay) := [(1, .box TScn), (2, .box TP), (3, .val TI)]
noncomputable def ref22_Check.t0 (x : ((List ((Int × Int × Int) × (Int × Int × Int) × Int)) × (List ((Int × Int × Int) × (Int × Int × Int) × (Int × Int × Int) × Int)) × (List (Int × Int × Int × Int)) × Int × (List (Int × Int × Int)) × ((Int × Int × Int) × (Int × Int × Int) × (Int × Int × Int) × Int × Int × Int) × Int × Int) × (Int × Int × Int) × Int × Unit) : T (Ex × ((List ((Int × Int × Int) × (Int × Int × Int) × Int)) × (List ((Int × Int × Int) × (Int × Int × Int) × (Int × Int × Int) × Int)) × (List (Int × Int × Int × Int)) × Int × (List (Int × Int × Int)) × ((Int × Int × Int) × (Int × Int × Int) × (Int × Int × Int) × Int × Int × Int) × Int × Int) × (Int × Int × Int) × Int × Unit) := T.ite (decide (x.2.2.1 < (↑(List.length x.1.1) : Int))) (T.opt (lget x.1.1 x.2.2.1) fun y => T.opt (ref22_mat (y, W (x.2.2.1 + (1 : Int)))) fun y => T.ite (!(y.1 == (0 : Int) && (y.2.1 == (0 : Int) && y.2.2 == (0 : Int)))) (T.ret (Ex.ret, x.1, y, x.2.2.1, ())) (T.ret (Ex.normal, x.1, x.2.1, W (x.2.2.1 + (1 : Int)), ()))) (T.ret (Ex.exit (0 : Nat), x.1, x.2.1, x.2.2.1, ()))
noncomputable def ref22_Check.l0 (x : ((List ((Int × Int × Int) × (Int × Int × Int) × Int)) × (List ((Int × Int × Int) × (Int × Int × Int) × (Int × Int × Int) × Int)) × (List (Int × Int × Int × Int)) × Int × (List (Int × Int × Int)) × ((Int × Int × Int) × (Int × Int × Int) × (Int × Int × Int) × Int × Int × Int) × Int × Int) × (Int × Int × Int) × Int × Unit) : Option (Ex × ((List ((Int × Int × Int) × (Int × Int × Int) × Int)) × (List ((Int × Int × Int) × (Int × Int × Int) × (Int × Int × Int) × Int)) × (List (Int × Int × Int × Int)) × Int × (List (Int × Int × Int)) × ((Int × Int × Int) × (Int × Int × Int) × (Int × Int × Int) × Int × Int × Int) × Int × Int) × (Int × Int × Int) × Int × Unit) := (iterT ref22_Check.t0 rounds x).run
theorem ref22_Check.k0 : bodies 0 (lp Tryd.f26 []) = [.loop (loopIn 0 (lp Tryd.f26 []))] ∧ WP Tryd.prog 0 (.block 0 (.loop (loopIn 0 (lp Tryd.f26 [])))) (loopS ref22_Check.L0 92 0 [.exit 0, .ret] ref22_Check.l0) :=
  loop_tree (L := ref22_Check.L0) (F := ({ quiet := (ext (ext (ext (ext (ext Xs 51 ref22_bound.q) 52 ref22_mat.q) 53 ref22_tri.q) 54 ref22_light.q) 55 ref22_rest.q), deep := noDeep } : Fns)) (D := D0) (tab := []) (t := ref22_Check.t0) mixed (quiet_ext (quiet_ext (quiet_ext (quiet_ext (quiet_ext Xok ref22_bound.ok) ref22_mat.ok) ref22_tri.ok) ref22_light.ok) ref22_rest.ok) (deep_none _) (fun _ => rfl) (by kernel_rfl) (by kernel_rfl) trivial (fun x => by kernel_rfl)
def ref22_Check.L2 : List (Nat × Lay) := [(1, .box TScn), (2, .box TP), (5, .val TI)]
noncomputable def ref22_Check.t2 (x : ((List ((Int × Int × Int) × (Int × Int × Int) × Int)) × (List ((Int × Int × Int) × (Int × Int × Int) × (Int × Int × Int) × Int)) × (List (Int × Int × Int × Int)) × Int × (List (Int × Int × Int)) × ((Int × Int × Int) × (Int × Int × Int) × (Int × Int × Int) × Int × Int × Int) × Int × Int) × (Int × Int × Int) × Int × Unit) : T (Ex × ((List ((Int × Int × Int) × (Int × Int × Int) × Int)) × (List ((Int × Int × Int) × (Int × Int × Int) × (Int × Int × Int) × Int)) × (List (Int × Int × Int × Int)) × Int × (List (Int × Int × Int)) × ((Int × Int × Int) × (Int × Int × Int) × (Int × Int × Int) × Int × Int × Int) × Int × Int) × (Int × Int × Int) × Int × Unit) := T.ite (decide (x.2.2.1 < (↑(List.length x.1.2.1) : Int))) (T.opt (lget x.1.2.1 x.2.2.1) fun y => T.opt (ref22_tri (y, (↑(List.length x.1.1) : Int), W (x.2.2.1 + (1 : Int)))) fun y => T.ite (!(y.1 == (0 : Int) && (y.2.1 == (0 : Int) && y.2.2 == (0 : Int)))) (T.ret (Ex.ret, x.1, y, x.2.2.1, ())) (T.ret (Ex.normal, x.1, x.2.1, W (x.2.2.1 + (1 : Int)), ()))) (T.ret (Ex.exit (2 : Nat), x.1, x.2.1, x.2.2.1, ()))
noncomputable def ref22_Check.l2 (x : ((List ((Int × Int × Int) × (Int × Int × Int) × Int)) × (List ((Int × Int × Int) × (Int × Int × Int) × (Int × Int × Int) × Int)) × (List (Int × Int × Int × Int)) × Int × (List (Int × Int × Int)) × ((Int × Int × Int) × (Int × Int × Int) × (Int × Int × Int) × Int × Int × Int) × Int × Int) × (Int × Int × Int) × Int × Unit) : Option (Ex × ((List ((Int × Int × Int) × (Int × Int × Int) × Int)) × (List ((Int × Int × Int) × (Int × Int × Int) × (Int × Int × Int) × Int)) × (List (Int × Int × Int × Int)) × Int × (List (Int × Int × Int)) × ((Int × Int × Int) × (Int × Int × Int) × (Int × Int × Int) × Int × Int × Int) × Int × Int) × (Int × Int × Int) × Int × Unit) := (iterT ref22_Check.t2 rounds x).run
theorem ref22_Check.k2 : bodies 2 (lp Tryd.f26 []) = [.loop (loopIn 2 (lp Tryd.f26 []))] ∧ WP Tryd.prog 0 (.block 2 (.loop (loopIn 2 (lp Tryd.f26 [])))) (loopS ref22_Check.L2 92 2 [.exit 2, .ret] ref22_Check.l2) :=
  loop_tree (L := ref22_Check.L2) (F := ({ quiet := (ext (ext (ext (ext (ext Xs 51 ref22_bound.q) 52 ref22_mat.q) 53 ref22_tri.q) 54 ref22_light.q) 55 ref22_rest.q), deep := noDeep } : Fns)) (D := D0) (tab := []) (t := ref22_Check.t2) mixed (quiet_ext (quiet_ext (quiet_ext (quiet_ext (quiet_ext Xok ref22_bound.ok) ref22_mat.ok) ref22_tri.ok) ref22_light.ok) ref22_rest.ok) (deep_none _) (fun _ => rfl) (by kernel_rfl) (by kernel_rfl) trivial (fun x => by kernel_rfl)
def ref22_Check.L4 : List (Nat × Lay) := [(1, .box TScn), (2, .box TP), (7, .val TI)]
noncomputable def ref22_Check.t4 (x : ((List ((Int × Int × Int) × (Int × Int × Int) × Int)) × (List ((Int × Int × Int) × (Int × Int × Int) × (Int × Int × Int) × Int)) × (List (Int × Int × Int × Int)) × Int × (List (Int × Int × Int)) × ((Int × Int × Int) × (Int × Int × Int) × (Int × Int × Int) × Int × Int × Int) × Int × Int) × (Int × Int × Int) × Int × Unit) : T (Ex × ((List ((Int × Int × Int) × (Int × Int × Int) × Int)) × (List ((Int × Int × Int) × (Int × Int × Int) × (Int × Int × Int) × Int)) × (List (Int × Int × Int × Int)) × Int × (List (Int × Int × Int)) × ((Int × Int × Int) × (Int × Int × Int) × (Int × Int × Int) × Int × Int × Int) × Int × Int) × (Int × Int × Int) × Int × Unit) := T.ite (decide (x.2.2.1 < (↑(List.length x.1.2.2.1) : Int))) (T.opt (ref22_light (x.1.2.2.1, x.2.2.1, (↑(List.length x.1.2.1) : Int))) fun y => T.ite (!(y.1 == (0 : Int) && (y.2.1 == (0 : Int) && y.2.2 == (0 : Int)))) (T.ret (Ex.ret, x.1, y, x.2.2.1, ())) (T.ret (Ex.normal, x.1, x.2.1, W (x.2.2.1 + (1 : Int)), ()))) (T.ret (Ex.exit (4 : Nat), x.1, x.2.1, x.2.2.1, ()))
noncomputable def ref22_Check.l4 (x : ((List ((Int × Int × Int) × (Int × Int × Int) × Int)) × (List ((Int × Int × Int) × (Int × Int × Int) × (Int × Int × Int) × Int)) × (List (Int × Int × Int × Int)) × Int × (List (Int × Int × Int)) × ((Int × Int × Int) × (Int × Int × Int) × (Int × Int × Int) × Int × Int × Int) × Int × Int) × (Int × Int × Int) × Int × Unit) : Option (Ex × ((List ((Int × Int × Int) × (Int × Int × Int) × Int)) × (List ((Int × Int × Int) × (Int × Int × Int) × (Int × Int × Int) × Int)) × (List (Int × Int × Int × Int)) × Int × (List (Int × Int × Int)) × ((Int × Int × Int) × (Int × Int × Int) × (Int × Int × Int) × Int × Int × Int) × Int × Int) × (Int × Int × Int) × Int × Unit) := (iterT ref22_Check.t4 rounds x).run
theorem ref22_Check.k4 : bodies 4 (lp Tryd.f26 []) = [.loop (loopIn 4 (lp Tryd.f26 []))] ∧ WP Tryd.prog 0 (.block 4 (.loop (loopIn 4 (lp Tryd.f26 [])))) (loopS ref22_Check.L4 92 4 [.exit 4, .ret] ref22_Check.l4) :=
  loop_tree (L := ref22_Check.L4) (F := ({ quiet := (ext (ext (ext (ext (ext Xs 51 ref22_bound.q) 52 ref22_mat.q) 53 ref22_tri.q) 54 ref22_light.q) 55 ref22_rest.q), deep := noDeep } : Fns)) (D := D0) (tab := []) (t := ref22_Check.t4) mixed (quiet_ext (quiet_ext (quiet_ext (quiet_ext (quiet_ext Xok ref22_bound.ok) ref22_mat.ok) ref22_tri.ok) ref22_light.ok) ref22_rest.ok) (deep_none _) (fun _ => rfl) (by kernel_rfl) (by kernel_rfl) trivial (fun x => by kernel_rfl)
noncomputable def ref22_Check.t (x : ((List ((Int × Int × Int) × (Int × Int × Int) × Int)) × (List ((Int × Int × Int) × (Int × Int × Int) × (Int × Int × Int) × Int)) × (List (Int × Int × Int × Int)) × Int × (List (Int × Int × Int)) × ((Int × Int × Int) × (Int × Int × Int) × (Int × Int × Int) × Int × Int × Int) × Int × Int)) : T ((Int × Int × Int)) := T.ite (decide ((↑(List.length x.1) : Int) > (32 : Int)) || decide ((↑(List.length x.2.1) : Int) > (512 : Int)) || decide ((↑(List.length x.2.2.1) : Int) > (512 : Int)) || decide (x.2.2.2.1 > (16 : Int))) (T.ret ((10 : Int), (4 : Int), (0 : Int))) (T.opt (ref22_Check.l0 (x, ((0 : Int), (0 : Int), (0 : Int)), (0 : Int), ())) fun y => T.ite (exEq y.1 (Ex.exit (0 : Nat))) (T.opt (ref22_Check.l2 (y.2.1, y.2.2.1, (0 : Int), ())) fun y => T.ite (exEq y.1 (Ex.exit (2 : Nat))) (T.opt (ref22_Check.l4 (y.2.1, y.2.2.1, (0 : Int), ())) fun y => T.ite (exEq y.1 (Ex.exit (4 : Nat))) (T.opt (ref22_rest y.2.1) fun y => T.ret y) (T.ite (exEq y.1 Ex.ret) (T.ret y.2.2.1) T.fail)) (T.ite (exEq y.1 Ex.ret) (T.ret y.2.2.1) T.fail)) (T.ite (exEq y.1 Ex.ret) (T.ret y.2.2.1) T.fail))
noncomputable def ref22_Check (x : ((List ((Int × Int × Int) × (Int × Int × Int) × Int)) × (List ((Int × Int × Int) × (Int × Int × Int) × (Int × Int × Int) × Int)) × (List (Int × Int × Int × Int)) × Int × (List (Int × Int × Int)) × ((Int × Int × Int) × (Int × Int × Int) × (Int × Int × Int) × Int × Int × Int) × Int × Int)) : Option ((Int × Int × Int)) := (ref22_Check.t x).run
noncomputable def ref22_Check.q : List AV → T AV := entry [TScn] (outR [TP]) fun x => .opt (ref22_Check x) .ret
theorem ref22_Check.ok : FnOK Tryd.prog 26 ref22_Check.q :=
  entry_call (ps := [TScn]) (rs := [TP]) (F := ({ quiet := (ext (ext (ext (ext (ext Xs 51 ref22_bound.q) 52 ref22_mat.q) 53 ref22_tri.q) 54 ref22_light.q) 55 ref22_rest.q), deep := noDeep } : Fns)) (D := D0) (S := tabS [(0, loopS ref22_Check.L0 92 0 [.exit 0, .ret] ref22_Check.l0), (2, loopS ref22_Check.L2 92 2 [.exit 2, .ret] ref22_Check.l2), (4, loopS ref22_Check.L4 92 4 [.exit 4, .ret] ref22_Check.l4)]) (t := ref22_Check.t) mixed (quiet_ext (quiet_ext (quiet_ext (quiet_ext (quiet_ext Xok ref22_bound.ok) ref22_mat.ok) ref22_tri.ok) ref22_light.ok) ref22_rest.ok) (deep_none _) Tryd.func26 (by kernel_rfl) (sok_fn ⟨ref22_Check.k0, ref22_Check.k2, ref22_Check.k4, trivial⟩) (by kernel_rfl) (fun x => by kernel_rfl)
end Go.Proofs.Pen

namespace Go.Proofs.Pen
open Go Go.Proofs
noncomputable def law22_SceneChecks.t (x : ((List ((Int × Int × Int) × (Int × Int × Int) × Int)) × (List ((Int × Int × Int) × (Int × Int × Int) × (Int × Int × Int) × Int)) × (List (Int × Int × Int × Int)) × Int × (List (Int × Int × Int)) × ((Int × Int × Int) × (Int × Int × Int) × (Int × Int × Int) × Int × Int × Int) × Int × Int)) : T (Bool) := T.ite (!(decide ((↑x.1.length : Int) ≤ (40 : Int)) && decide ((↑x.2.1.length : Int) ≤ (60 : Int)) && decide ((↑x.2.2.1.length : Int) ≤ (60 : Int)) && decide ((↑x.2.2.2.2.1.length : Int) ≤ (200 : Int)))) (T.ret true) (T.opt (scene_Check x) fun y => T.opt (ref22_Check x) fun y_1 => T.ite (y_1.fst == (0 : Int) && (y_1.snd.fst == (0 : Int) && y_1.snd.snd == (0 : Int))) (T.ret y.isNil) (T.ite (!y.isNil) (T.ite (y.top == y_1.fst) (T.opt (fault_Is (y, y_1.snd.fst)) fun y_2 => T.ite y_2 (T.opt (fault_Line y) fun y_3 => T.ite (y_3 == y_1.snd.snd) (T.opt (fault_Chain y) fun y => T.opt (ref01_Errs (y, List.take (2 : Nat) [y_1.fst, y_1.snd.fst])) fun y => T.ret y) (T.ret false)) (T.ret false)) (T.ret false)) (T.ret false)))
noncomputable def law22_SceneChecks (x : ((List ((Int × Int × Int) × (Int × Int × Int) × Int)) × (List ((Int × Int × Int) × (Int × Int × Int) × (Int × Int × Int) × Int)) × (List (Int × Int × Int × Int)) × Int × (List (Int × Int × Int)) × ((Int × Int × Int) × (Int × Int × Int) × (Int × Int × Int) × Int × Int × Int) × Int × Int)) : Option (Bool) := (law22_SceneChecks.t x).run
noncomputable def law22_SceneChecks.q : List AV → T AV := entry [TScn] (outR [.bool]) fun x => .opt (law22_SceneChecks x) .ret
theorem law22_SceneChecks.ok : FnOK Tryd.prog 6 law22_SceneChecks.q :=
  entry_call (ps := [TScn]) (rs := [.bool]) (F := ({ quiet := (ext (ext (ext (ext (ext (ext (ext (ext (ext (ext Xs 23 law22_Light.q) 24 law22_awake.q) 25 scene_Check.q) 26 ref22_Check.q) 13 fault_Is.q) 11 fault_Line.q) 17 fault_Chain.q) 16 ref01_Errs.q) 87 scene_lights_1.q) 103 scene_within_1.q), deep := noDeep } : Fns)) (D := D0) (S := tabS []) (t := law22_SceneChecks.t) mixed (quiet_ext (quiet_ext (quiet_ext (quiet_ext (quiet_ext (quiet_ext (quiet_ext (quiet_ext (quiet_ext (quiet_ext Xok law22_Light.ok) law22_awake.ok) scene_Check.ok) ref22_Check.ok) fault_Is.ok) fault_Line.ok) fault_Chain.ok) ref01_Errs.ok) scene_lights_1.ok) scene_within_1.ok) (deep_none _) Tryd.func6 (by kernel_rfl) (sok_fn trivial) (by kernel_rfl) (fun x => by kernel_rfl)
end Go.Proofs.Pen

namespace Go.Proofs.Pen
open Go Go.Proofs

/-! ### What is wrong first -/
abbrev W3 := Int × Int × Int

def firstF (f : Nat → Option W3) : Nat → Nat → Option (Nat × W3)
  | _, 0 => none
  | k, n + 1 => match f k with
    | some w => some (k, w)
    | none => firstF f (k + 1) n

/-- A loop that stops at the first fault. -/
theorem iter_first {σ : Type} {t : σ → T (Ex × σ)} (st : Nat → σ) (f : Nat → Option W3) (er : Nat → W3 → σ) {e : Ex} {z : σ} (he : e ≠ .normal) : ∀ (n k m : Nat),
    (∀ i, k ≤ i → i < k + n → f i = none → (t (st i)).run = some (.normal, st (i + 1))) → (∀ i w, k ≤ i → i < k + n → f i = some w → (t (st i)).run = some (.ret, er i w)) →
    (t (st (k + n))).run = some (e, z) → n < m → (iterT t m (st k)).run = some (match firstF f k n with | some (i, w) => (.ret, er i w) | none => (e, z))
  | n, k, 0, _, _, _, hm => absurd hm (Nat.not_lt_zero _)
  | 0, k, m + 1, _, _, h2, _ => by
    rw [Nat.add_zero] at h2
    exact iter_stop he h2
  | n + 1, k, m + 1, h0, h1, h2, hm => by
    unfold firstF
    cases hf : f k with
    | some w => exact iter_stop (by simp) (h1 k w (Nat.le_refl _) (by omega) hf)
    | none =>
      rw [iter_go (h0 k (Nat.le_refl _) (by omega) hf)]
      exact iter_first st f er he n (k + 1) m (fun i a b => h0 i (by omega) (by omega)) (fun i w a b => h1 i w (by omega) (by omega)) (by rw [show k + 1 + n = k + (n + 1) by omega]; exact h2) (by omega)

theorem firstF_some {f : Nat → Option W3} : ∀ {n k i : Nat} {w : W3}, firstF f k n = some (i, w) → k ≤ i ∧ i < k + n ∧ f i = some w
  | 0, k, i, w, h => by cases h
  | n + 1, k, i, w, h => by
    unfold firstF at h
    cases hf : f k with
    | some w' => rw [hf] at h; cases h; exact ⟨Nat.le_refl _, by omega, hf⟩
    | none =>
      rw [hf] at h
      obtain ⟨h1, h2, h3⟩ := firstF_some h
      exact ⟨by omega, by omega, h3⟩

theorem firstF_none {f : Nat → Option W3} : ∀ {n k : Nat}, firstF f k n = none → ∀ i, k ≤ i → i < k + n → f i = none
  | 0, k, _, i, h1, h2 => by omega
  | n + 1, k, h, i, h1, h2 => by
    unfold firstF at h
    cases hf : f k with
    | some w' => rw [hf] at h; cases h
    | none =>
      rw [hf] at h
      rcases Nat.lt_or_ge k i with hi | hi
      · exact firstF_none h i (by omega) (by omega)
      · have : i = k := by omega
        subst this; exact hf

/-- The error that tells it. -/
def mkErr : Option W3 → ErrD
  | none => .nil
  | some w => .fault w.1 0 (.fault w.2.1 w.2.2 .nil)
def mkW : Option W3 → W3
  | none => (0, 0, 0)
  | some w => w

theorem bound_eq {c p : Int} (h : ¬ (c == 0) = true) : scene_bound (c, p) = some (mkErr (some (10, c, p))) := by
  have e1 : fault_Wrap (.fault c p .nil, 10, 0) = _ := Wrap_eq rfl (by decide)
  unfold scene_bound scene_bound.t
  rw [tr_opt, New_eq h, Option.bind_some, tr_opt, e1, Option.bind_some, tr_ret]; rfl
theorem broken_eq {c p : Int} (h : ¬ (c == 0) = true) : scene_broken (c, p) = some (mkErr (some (11, c, p))) := by
  have e1 : fault_Wrap (.fault c p .nil, 11, 0) = _ := Wrap_eq rfl (by decide)
  unfold scene_broken scene_broken.t
  rw [tr_opt, New_eq h, Option.bind_some, tr_opt, e1, Option.bind_some, tr_ret]; rfl

/-! ### Limits -/
def inB (lo hi : Int) (l : List Int) : Bool := l.all fun a => decide (lo ≤ a) && decide (a ≤ hi)

def mnF (m y : Int) : Int := if y < m then y else m
def mxF (m y : Int) : Int := if y > m then y else m

theorem mn_ge (lo : Int) : ∀ (t : List Int) (a : Int), lo ≤ t.foldl mnF a ↔ lo ≤ a ∧ ∀ b ∈ t, lo ≤ b
  | [], a => by simp
  | b :: t, a => by
    rw [List.foldl_cons, mn_ge lo t]
    have : lo ≤ mnF a b ↔ lo ≤ a ∧ lo ≤ b := by unfold mnF; split <;> omega
    rw [this]
    simp [and_assoc]
theorem mx_le (hi : Int) : ∀ (t : List Int) (a : Int), t.foldl mxF a ≤ hi ↔ a ≤ hi ∧ ∀ b ∈ t, b ≤ hi
  | [], a => by simp
  | b :: t, a => by
    rw [List.foldl_cons, mx_le hi t]
    have : mxF a b ≤ hi ↔ a ≤ hi ∧ b ≤ hi := by unfold mxF; split <;> omega
    rw [this]
    simp [and_assoc]

theorem fold_take (f : Int → Int → Int) (a : Int) (t : List Int) {k : Nat} (h : k < t.length) : (t.take (k + 1)).foldl f a = f ((t.take k).foldl f a) t[k] := by
  rw [List.take_succ_eq_append_getElem h, List.foldl_append]; rfl

theorem Min_eq (a : Int) (t : List Int) (h : t.length < 900) : slices_Min (a :: t) = some (t.foldl mnF a) := by
  have hl : slices_Min.l0 (a :: t, a, 1, ()) = some (.exit 0, a :: t, t.foldl mnF a, ((t.length + 1 : Nat) : Int), ()) := by
    have := iter_count (t := slices_Min.t0) (fun k => ((a :: t, (t.take (k - 1)).foldl mnF a, (k : Int), ()) : List Int × Int × Int × Unit)) (e := .exit 0) (z := (a :: t, t.foldl mnF a, ((t.length + 1 : Nat) : Int), ())) (by simp) t.length 1 rounds (fun i h1 hi => ?_) ?_ (rounds_gt (by omega))
    · exact this
    · have hi : i < t.length + 1 := by omega
      unfold slices_Min.t0
      dsimp only
      have hg : lget (a :: t) (i : Int) = some (t[i - 1]'(by omega)) := by
        rw [lget_nat (a :: t) (by simpa using hi)]
        congr 1
        rw [List.getElem_cons]
        split
        · omega
        · rfl
      rw [tr_ite, decide_eq_true (by simp; omega), if_pos rfl, tr_opt, hg, Option.bind_some, tr_ret, W_succ (by omega)]
      have e1 : i + 1 - 1 = (i - 1) + 1 := by omega
      rw [e1, fold_take mnF a t (by omega)]
      rfl
    · unfold slices_Min.t0
      dsimp only
      have e1 : 1 + t.length - 1 = t.length := by omega
      have e2 : ((1 + t.length : Nat) : Int) = ((t.length + 1 : Nat) : Int) := by omega
      rw [tr_ite, decide_eq_false (by simp; omega), if_neg (by simp), tr_ret, e1, e2, List.take_length]
  unfold slices_Min slices_Min.t
  have hg : lget (a :: t) 0 = some a := rfl
  rw [tr_ite, decide_eq_false (by simp; omega), if_neg (by simp), tr_opt, hg, Option.bind_some, tr_opt, hl, Option.bind_some, tr_ite, if_pos (by rfl), tr_ret]

theorem Max_eq (a : Int) (t : List Int) (h : t.length < 900) : slices_Max (a :: t) = some (t.foldl mxF a) := by
  have hl : slices_Max.l0 (a :: t, a, 1, ()) = some (.exit 0, a :: t, t.foldl mxF a, ((t.length + 1 : Nat) : Int), ()) := by
    have := iter_count (t := slices_Max.t0) (fun k => ((a :: t, (t.take (k - 1)).foldl mxF a, (k : Int), ()) : List Int × Int × Int × Unit)) (e := .exit 0) (z := (a :: t, t.foldl mxF a, ((t.length + 1 : Nat) : Int), ())) (by simp) t.length 1 rounds (fun i h1 hi => ?_) ?_ (rounds_gt (by omega))
    · exact this
    · have hi : i < t.length + 1 := by omega
      unfold slices_Max.t0
      dsimp only
      have hg : lget (a :: t) (i : Int) = some (t[i - 1]'(by omega)) := by
        rw [lget_nat (a :: t) (by simpa using hi)]
        congr 1
        rw [List.getElem_cons]
        split
        · omega
        · rfl
      rw [tr_ite, decide_eq_true (by simp; omega), if_pos rfl, tr_opt, hg, Option.bind_some, tr_ret, W_succ (by omega)]
      have e1 : i + 1 - 1 = (i - 1) + 1 := by omega
      rw [e1, fold_take mxF a t (by omega)]
      rfl
    · unfold slices_Max.t0
      dsimp only
      have e1 : 1 + t.length - 1 = t.length := by omega
      have e2 : ((1 + t.length : Nat) : Int) = ((t.length + 1 : Nat) : Int) := by omega
      rw [tr_ite, decide_eq_false (by simp; omega), if_neg (by simp), tr_ret, e1, e2, List.take_length]
  unfold slices_Max slices_Max.t
  have hg : lget (a :: t) 0 = some a := rfl
  rw [tr_ite, decide_eq_false (by simp; omega), if_neg (by simp), tr_opt, hg, Option.bind_some, tr_opt, hl, Option.bind_some, tr_ite, if_pos (by rfl), tr_ret]

theorem within_eq (a : Int) (t : List Int) (lo hi : Int) (h : t.length < 900) : scene_within_1 (a :: t, lo, hi) = some (inB lo hi (a :: t)) := by
  unfold scene_within_1 scene_within_1.t
  dsimp only
  rw [tr_opt, Min_eq a t h, Option.bind_some, tr_ite, tr_opt, Max_eq a t h, Option.bind_some]
  have e1 := mn_ge lo t a
  have e2 := mx_le hi t a
  have e3 : inB lo hi (a :: t) = (decide (lo ≤ t.foldl mnF a) && decide (t.foldl mxF a ≤ hi)) := by
    rw [Bool.eq_iff_iff]
    simp only [inB, List.all_cons, Bool.and_eq_true, List.all_eq_true, decide_eq_true_eq, e1, e2]
    constructor
    · rintro ⟨⟨h1, h2⟩, h3⟩; exact ⟨⟨h1, fun b hb => (h3 b hb).1⟩, h2, fun b hb => (h3 b hb).2⟩
    · rintro ⟨⟨h1, h2⟩, h3, h4⟩; exact ⟨⟨h1, h3⟩, fun b hb => ⟨h2 b hb, h4 b hb⟩⟩
  rw [e3]
  show (if decide (lo ≤ t.foldl mnF a) = true then some (decide (t.foldl mxF a ≤ hi)) else some false) = _
  cases decide (lo ≤ t.foldl mnF a) <;> simp

/-- The same, as the document's answer says it. -/
def in3 (p : W3) (lo hi : Int) : Bool := decide (p.1 ≥ lo) && decide (p.1 ≤ hi) && decide (p.2.1 ≥ lo) && decide (p.2.1 ≤ hi) && decide (p.2.2 ≥ lo) && decide (p.2.2 ≤ hi)
theorem inB3 (p : W3) (lo hi : Int) : inB lo hi [p.1, p.2.1, p.2.2] = in3 p lo hi := by
  unfold inB in3
  simp only [List.all_cons, List.all_nil, Bool.and_true, ge_iff_le]
  simp only [Bool.and_assoc]
theorem within3 (p : W3) (lo hi : Int) : scene_within_1 (List.take 3 [p.1, p.2.1, p.2.2], lo, hi) = some (in3 p lo hi) := by
  rw [← inB3]; exact within_eq p.1 [p.2.1, p.2.2] lo hi (by simp)
theorem within1 (a lo hi : Int) : scene_within_1 ([a], lo, hi) = some (decide (lo ≤ a) && decide (a ≤ hi)) := by
  rw [within_eq a [] lo hi (by simp)]; simp [inB]

/-! ### Outer products -/
theorem W_sub0 (a b : Int) : (W (W a - W b) == 0) = (W a == W b) := by
  have h1 := W_in a
  have h2 := W_in b
  have h3 := W_def (W a - W b)
  rw [Bool.eq_iff_iff, beq_iff_eq, beq_iff_eq, h3]
  split <;> omega

def flatB (a b : W3) : Bool := W (a.2.1 * b.2.2) == W (a.2.2 * b.2.1) && (W (a.2.2 * b.1) == W (a.1 * b.2.2) && W (a.1 * b.2.1) == W (a.2.1 * b.1))
def lessW (a b : W3) : W3 := (W (a.1 - b.1), W (a.2.1 - b.2.1), W (a.2.2 - b.2.2))
end Go.Proofs.Pen

namespace Go.Proofs.Pen
open Go Go.Proofs

theorem nf {b : Bool} (h : ¬ b = false) : b = true := by cases b <;> simp_all

abbrev MatT := W3 × W3 × Int
abbrev TriT := W3 × W3 × W3 × Int
abbrev LitT := Int × W3
abbrev CamT := W3 × W3 × W3 × Int × Int × Int
abbrev ScT := List MatT × List TriT × List LitT × Int × List W3 × CamT × Int × Int


def over1 (a b : Int) : Bool := decide (1024 ≤ a + b)
def matW (m : MatT) (p : Int) : Option W3 :=
  if (decide (1 ≤ m.2.2) && decide (m.2.2 ≤ 1024) && in3 m.1 0 9223372036854775807 && in3 m.2.1 0 9223372036854775807) = false then some (10, 3, p)
  else if (over1 m.1.1 m.2.1.1 || over1 m.1.2.1 m.2.1.2.1 || over1 m.1.2.2 m.2.1.2.2) = true then some (11, 4, p) else none
def triW (nm : Int) (t : TriT) (p : Int) : Option W3 :=
  if (decide (t.2.2.2 < 0) || decide (t.2.2.2 ≥ nm)) = true then some (11, 2, p)
  else if (in3 t.1 (-1048576) 1048576 && in3 t.2.1 (-1048576) 1048576 && in3 t.2.2.1 (-1048576) 1048576) = false then some (10, 3, p)
  else if flatB (lessW t.2.1 t.1) (lessW t.2.2.1 t.1) = true then some (11, 13, p) else none
def litW (nt : Int) (ahead : List LitT) (t : LitT) (p : Int) : Option W3 :=
  if (decide (t.1 < 0) || decide (t.1 ≥ nt) || ahead.any fun y => t.1 == y.1) = true then some (11, 2, p)
  else if in3 t.2 0 67108863 = false then some (10, 3, p) else none
def celW (c : W3) (p : Int) : Option W3 := if in3 c 0 67108863 = false then some (10, 3, p) else none
def camW (x : ScT) : Option W3 :=
  let c := x.2.2.2.2.2.1
  if (in3 c.1 (-1048576) 1048576 && in3 c.2.1 (-1048576) 1048576 && in3 c.2.2.1 (-1048576) 1048576 && (decide (1 ≤ c.2.2.2.1) && decide (c.2.2.2.1 ≤ 1048576)) && (decide (1 ≤ c.2.2.2.2.2) && decide (c.2.2.2.2.2 ≤ 1048576)) && (decide (0 ≤ c.2.2.2.2.1) && decide (c.2.2.2.2.1 ≤ 1048576))) = false then some (10, 3, 0)
  else if flatB (lessW c.2.1 c.1) c.2.2.1 = true then some (11, 13, 0)
  else if (x.2.2.2.2.2.2.1 != 1 && x.2.2.2.2.2.2.1 != 2) = true then some (11, 2, 0)
  else if (decide (1 ≤ x.2.2.2.2.2.2.2) && decide (x.2.2.2.2.2.2.2 ≤ 8192)) = false then some (10, 3, 0) else none

def fM (x : ScT) (k : Nat) : Option W3 := x.1[k]?.bind fun m => matW m ((k + 1 : Nat) : Int)
def fT (x : ScT) (k : Nat) : Option W3 := x.2.1[k]?.bind fun t => triW (x.1.length : Int) t ((k + 1 : Nat) : Int)
def fL (x : ScT) (k : Nat) : Option W3 := x.2.2.1[k]?.bind fun t => litW (x.2.1.length : Int) (x.2.2.1.take k) t ((k + 1 : Nat) : Int)
def fC (x : ScT) (k : Nat) : Option W3 := x.2.2.2.2.1[k]?.bind fun c => celW c ((k + 1 : Nat) : Int)

def bigB (x : ScT) : Bool := decide ((x.1.length : Int) > 32) || decide ((x.2.1.length : Int) > 512) || decide ((x.2.2.1.length : Int) > 512) || decide (x.2.2.2.1 > 16)

def wC (x : ScT) : Option W3 := (firstF (fC x) 0 x.2.2.2.2.1.length).map (·.2)
def wL (x : ScT) : Option W3 := (firstF (fL x) 0 x.2.2.1.length).map (·.2)
def wT (x : ScT) : Option W3 := (firstF (fT x) 0 x.2.1.length).map (·.2)
def wM (x : ScT) : Option W3 := (firstF (fM x) 0 x.1.length).map (·.2)
def wZ (x : ScT) : Option W3 :=
  if decide (x.2.2.2.1 < 0) = true then some (10, 3, 0)
  else if ((x.2.2.2.2.1.length : Int) != W (8 * x.2.2.2.1)) = true then some (11, 14, 0) else wC x
def orElse' (a b : Option W3) : Option W3 := match a with
  | some w => some w
  | none => b
/-- What is wrong with a scene. -/
def wr (x : ScT) : Option W3 := if bigB x = true then some (10, 4, 0) else orElse' (wM x) (orElse' (wT x) (orElse' (orElse' (wL x) (wZ x)) (camW x)))

/-- Not far too great. -/
def lightB (x : ScT) : Prop := x.1.length ≤ 40 ∧ x.2.1.length ≤ 60 ∧ x.2.2.1.length ≤ 60 ∧ x.2.2.2.2.1.length ≤ 200

/-! ### The program's answer -/
theorem in3_iff {p : W3} {lo hi : Int} : in3 p lo hi = true ↔ (lo ≤ p.1 ∧ p.1 ≤ hi) ∧ (lo ≤ p.2.1 ∧ p.2.1 ≤ hi) ∧ (lo ≤ p.2.2 ∧ p.2.2 ≤ hi) := by
  unfold in3
  simp only [Bool.and_eq_true, decide_eq_true_eq, ge_iff_le]
  constructor
  · rintro ⟨⟨⟨⟨⟨a, b⟩, c⟩, d⟩, e⟩, f⟩; exact ⟨⟨a, b⟩, ⟨c, d⟩, e, f⟩
  · rintro ⟨⟨a, b⟩, ⟨c, d⟩, e, f⟩; exact ⟨⟨⟨⟨⟨a, b⟩, c⟩, d⟩, e⟩, f⟩

theorem mats2 (e : ErrD) (lim : Int × Int) (i : Nat) (kd ks : W3) (r : Int) (l : List MatT) (n j : Int) (hi : i < 900) (h1 : in3 kd 0 9223372036854775807 = true) (h2 : in3 ks 0 9223372036854775807 = true) :
    ∃ ex k, scene_mats.l2 (e, lim, (i : Int), (kd, ks, r), l, n, j, List.take 3 [kd.1, kd.2.1, kd.2.2], ((List.take 3 [kd.1, kd.2.1, kd.2.2]).length : Int), 0, ()) =
      some (ex, (if exEq ex .ret = true then mkErr (some (11, 4, ((i + 1 : Nat) : Int))) else e), lim, (i : Int), (kd, ks, r), l, n, j, [kd.1, kd.2.1, kd.2.2], 3, k, ()) ∧
      ((ex = .exit 2 ∧ (over1 kd.1 ks.1 || over1 kd.2.1 ks.2.1 || over1 kd.2.2 ks.2.2) = false) ∨ (ex = .ret ∧ (over1 kd.1 ks.1 || over1 kd.2.1 ks.2.1 || over1 kd.2.2 ks.2.2) = true)) := by
  obtain ⟨⟨a1, a2⟩, ⟨a3, a4⟩, a5, a6⟩ := in3_iff.1 h1
  obtain ⟨⟨b1, b2⟩, ⟨b3, b4⟩, b5, b6⟩ := in3_iff.1 h2
  let st : Nat → ErrD × (Int × Int) × Int × MatT × List MatT × Int × Int × List Int × Int × Int × Unit := fun k => (e, lim, (i : Int), (kd, ks, r), l, n, j, [kd.1, kd.2.1, kd.2.2], 3, (k : Int), ())
  let f : Nat → Option W3 := fun k => if over1 ([kd.1, kd.2.1, kd.2.2].getD k 0) ([ks.1, ks.2.1, ks.2.2].getD k 0) = true then some (11, 4, ((i + 1 : Nat) : Int)) else none
  have step : ∀ k : Nat, k < 3 → ∃ a b, lget [kd.1, kd.2.1, kd.2.2] (k : Int) = some a ∧ lget (List.take 3 [ks.1, ks.2.1, ks.2.2]) (k : Int) = some b ∧ 0 ≤ a ∧ a ≤ 9223372036854775807 ∧ 0 ≤ b ∧ b ≤ 9223372036854775807 ∧ f k = (if over1 a b = true then some (11, 4, ((i + 1 : Nat) : Int)) else none) := by
    intro k hk
    rcases k with _ | _ | _ | k
    · exact ⟨kd.1, ks.1, rfl, rfl, a1, a2, b1, b2, rfl⟩
    · exact ⟨kd.2.1, ks.2.1, rfl, rfl, a3, a4, b3, b4, rfl⟩
    · exact ⟨kd.2.2, ks.2.2, rfl, rfl, a5, a6, b5, b6, rfl⟩
    · omega
  have hb : scene_broken (4, W ((i : Int) + 1)) = some (mkErr (some (11, 4, ((i + 1 : Nat) : Int)))) := by rw [nn (by omega)]; exact broken_eq (by decide)
  have hw : ∀ a b : Int, 0 ≤ a → a < 1024 → 0 ≤ b → W (a + if (1024 : Int) < b then 1024 else b) = a + if (1024 : Int) < b then 1024 else b := by
    intro a b q1 q2 q3
    split <;> exact W_id (by omega) (by omega)
  have run := iter_first (t := scene_mats.t2) st f (fun (k : Nat) w => (mkErr (some w), lim, (i : Int), (kd, ks, r), l, n, j, [kd.1, kd.2.1, kd.2.2], 3, (k : Int), ())) (e := .exit 2) (z := st 3) (by simp) 3 0 rounds
    (fun k _ hk hf => by
      obtain ⟨a, b, g1, g2, c1, c2, c3, c4, hfk⟩ := step k (by omega)
      have ho : over1 a b = false := by
        rw [hfk] at hf
        by_cases h : over1 a b = true
        · rw [if_pos h] at hf; cases hf
        · simpa using h
      unfold over1 at ho
      have ho := of_decide_eq_false ho
      show (scene_mats.t2 (e, lim, (i : Int), (kd, ks, r), l, n, j, [kd.1, kd.2.1, kd.2.2], 3, (k : Int), ())).run = _
      unfold scene_mats.t2
      dsimp only
      rw [tr_ite, decide_eq_true (by omega), if_pos rfl, tr_opt, g1, Option.bind_some, tr_ite, decide_eq_false (by omega), if_neg (by simp), tr_opt, g2, Option.bind_some, tr_ite, hw a b c1 (by omega) c3]
      rw [decide_eq_false (by split <;> omega), if_neg (by simp), tr_ret, W_succ (by omega)])
    (fun k w _ hk hf => by
      obtain ⟨a, b, g1, g2, c1, c2, c3, c4, hfk⟩ := step k (by omega)
      have ho : over1 a b = true ∧ w = (11, 4, ((i + 1 : Nat) : Int)) := by
        rw [hfk] at hf
        by_cases h : over1 a b = true
        · rw [if_pos h] at hf; cases hf; exact ⟨h, rfl⟩
        · rw [if_neg h] at hf; cases hf
      obtain ⟨ho, rfl⟩ := ho
      unfold over1 at ho
      have ho := of_decide_eq_true ho
      show (scene_mats.t2 (e, lim, (i : Int), (kd, ks, r), l, n, j, [kd.1, kd.2.1, kd.2.2], 3, (k : Int), ())).run = _
      unfold scene_mats.t2
      dsimp only
      rw [tr_ite, decide_eq_true (by omega), if_pos rfl, tr_opt, g1, Option.bind_some, tr_ite]
      by_cases hc : (1024 : Int) ≤ a
      · rw [decide_eq_true hc, if_pos rfl, tr_opt, hb, Option.bind_some, tr_ret]
      · rw [decide_eq_false hc, if_neg (by simp), tr_opt, g2, Option.bind_some, tr_ite, hw a b c1 (by omega) c3]
        rw [decide_eq_true (by split <;> omega), if_pos rfl, tr_opt, hb, Option.bind_some, tr_ret])
    (by
      show (scene_mats.t2 (e, lim, (i : Int), (kd, ks, r), l, n, j, [kd.1, kd.2.1, kd.2.2], 3, ((0 + 3 : Nat) : Int), ())).run = _
      unfold scene_mats.t2
      dsimp only
      rw [tr_ite, decide_eq_false (by omega), if_neg (by simp), tr_ret]) (rounds_gt (by omega))
  have hl : scene_mats.l2 (e, lim, (i : Int), (kd, ks, r), l, n, j, List.take 3 [kd.1, kd.2.1, kd.2.2], ((List.take 3 [kd.1, kd.2.1, kd.2.2]).length : Int), 0, ()) = _ := run
  rw [hl]
  have f0 : f 0 = if over1 kd.1 ks.1 = true then some (11, 4, ((i + 1 : Nat) : Int)) else none := rfl
  have f1 : f 1 = if over1 kd.2.1 ks.2.1 = true then some (11, 4, ((i + 1 : Nat) : Int)) else none := rfl
  have f2 : f 2 = if over1 kd.2.2 ks.2.2 = true then some (11, 4, ((i + 1 : Nat) : Int)) else none := rfl
  cases o1 : over1 kd.1 ks.1 with
  | true =>
    rw [o1, if_pos rfl] at f0
    refine ⟨.ret, 0, ?_, .inr ⟨rfl, by simp⟩⟩
    simp only [firstF, f0]; rfl
  | false =>
    rw [o1, if_neg (by simp)] at f0
    cases o2 : over1 kd.2.1 ks.2.1 with
    | true =>
      rw [o2, if_pos rfl] at f1
      refine ⟨.ret, 1, ?_, .inr ⟨rfl, by simp⟩⟩
      simp only [firstF, f0, f1]; rfl
    | false =>
      rw [o2, if_neg (by simp)] at f1
      cases o3 : over1 kd.2.2 ks.2.2 with
      | true =>
        rw [o3, if_pos rfl] at f2
        refine ⟨.ret, 2, ?_, .inr ⟨rfl, by simp⟩⟩
        simp only [firstF, f0, f1, f2]; rfl
      | false =>
        rw [o3, if_neg (by simp)] at f2
        refine ⟨.exit 2, 3, ?_, .inl ⟨rfl, by simp⟩⟩
        simp only [firstF, f0, f1, f2]; rfl

theorem mats_eq (x : ScT) (hx : x.1.length ≤ 40) : scene_mats x = some (mkErr (wM x)) := by
  have run := iter_first (t := scene_mats.t0) (fun k => (.nil, (0, 9223372036854775807), x.1, (x.1.length : Int), (k : Int), ())) (fM x) (fun k w => (mkErr (some w), (0, 9223372036854775807), x.1, (x.1.length : Int), (k : Int), ())) (e := .exit 0) (z := (.nil, (0, 9223372036854775807), x.1, (x.1.length : Int), (x.1.length : Int), ())) (by simp) x.1.length 0 rounds
    (fun k _ hk hf => by
      have hlt : k < x.1.length := by omega
      unfold fM at hf
      rw [List.getElem?_eq_getElem hlt, Option.bind_some] at hf
      generalize hm : x.1[k] = m at hf
      obtain ⟨kd, ks, r⟩ := m
      unfold matW at hf
      dsimp only at hf
      split at hf
      · cases hf
      rename_i hok
      have hok : (decide (1 ≤ r) && decide (r ≤ 1024) && in3 kd 0 9223372036854775807 && in3 ks 0 9223372036854775807) = true := nf hok
      simp only [Bool.and_eq_true] at hok
      obtain ⟨⟨⟨q1, q2⟩, q3⟩, q4⟩ := hok
      split at hf
      · cases hf
      rename_i hov
      obtain ⟨ex, j, e1, e2⟩ := mats2 .nil (0, 9223372036854775807) k kd ks r x.1 (x.1.length : Int) (k : Int) (by omega) q3 q4
      rcases e2 with ⟨rfl, _⟩ | ⟨_, e2⟩
      · unfold scene_mats.t0
        dsimp only
        rw [tr_ite, decide_eq_true (by omega), if_pos rfl, tr_opt, lget_nat x.1 hlt, Option.bind_some, hm, tr_opt]
        dsimp only
        rw [within1, Option.bind_some, tr_ite, q1, q2, if_neg (by simp), tr_opt, within3, Option.bind_some, tr_ite, q3, if_neg (by simp), tr_opt, within3, Option.bind_some, tr_ite, q4, if_neg (by simp), tr_opt, e1, Option.bind_some, tr_ite, if_pos (by rfl), tr_ret, W_succ (by omega)]
        rfl
      · exact absurd e2 hov)
    (fun k w _ hk hf => by
      have hlt : k < x.1.length := by omega
      unfold fM at hf
      rw [List.getElem?_eq_getElem hlt, Option.bind_some] at hf
      generalize hm : x.1[k] = m at hf
      obtain ⟨kd, ks, r⟩ := m
      have hb : scene_bound (3, W ((k : Int) + 1)) = some (mkErr (some (10, 3, ((k + 1 : Nat) : Int)))) := by rw [nn (by omega)]; exact bound_eq (by decide)
      unfold scene_mats.t0
      dsimp only
      rw [tr_ite, decide_eq_true (by omega), if_pos rfl, tr_opt, lget_nat x.1 hlt, Option.bind_some, hm, tr_opt]
      dsimp only
      rw [within1, Option.bind_some, tr_ite, tr_opt, hb]
      unfold matW at hf
      dsimp only at hf
      split at hf
      · rename_i hok
        cases hf
        cases q1 : (decide (1 ≤ r) && decide (r ≤ 1024))
        · rw [if_pos (by simp), Option.bind_some, tr_ret]
        · rw [if_neg (by simp), tr_opt, within3, Option.bind_some, tr_ite]
          cases q3 : in3 kd 0 9223372036854775807
          · rw [if_pos (by simp), tr_opt, Option.bind_some, tr_ret]
          · rw [if_neg (by simp), tr_opt, within3, Option.bind_some, tr_ite]
            cases q4 : in3 ks 0 9223372036854775807
            · rw [if_pos (by simp), tr_opt, Option.bind_some, tr_ret]
            · rw [q1, q3, q4] at hok; cases hok
      · rename_i hok
        have hok : (decide (1 ≤ r) && decide (r ≤ 1024) && in3 kd 0 9223372036854775807 && in3 ks 0 9223372036854775807) = true := nf hok
        simp only [Bool.and_eq_true] at hok
        obtain ⟨⟨⟨q1, q2⟩, q3⟩, q4⟩ := hok
        split at hf
        · rename_i hov
          cases hf
          obtain ⟨ex, j, e1, e2⟩ := mats2 .nil (0, 9223372036854775807) k kd ks r x.1 (x.1.length : Int) (k : Int) (by omega) q3 q4
          rcases e2 with ⟨_, e2⟩ | ⟨rfl, _⟩
          · rw [e2] at hov; cases hov
          · rw [q1, q2, if_neg (by simp), tr_opt, within3, Option.bind_some, tr_ite, q3, if_neg (by simp), tr_opt, within3, Option.bind_some, tr_ite, q4, if_neg (by simp), tr_opt, e1, Option.bind_some, tr_ite, if_neg (by simp [exEq]), tr_ite, if_pos (by rfl), tr_ret]
            rfl
        · cases hf)
    (by
      rw [Nat.zero_add]
      unfold scene_mats.t0
      dsimp only
      rw [tr_ite, decide_eq_false (by omega), if_neg (by simp), tr_ret]) (rounds_gt (by omega))
  have hl : scene_mats.l0 (.nil, (0, 9223372036854775807), x.1, (x.1.length : Int), 0, ()) = _ := run
  unfold scene_mats scene_mats.t
  rw [tr_opt, hl, Option.bind_some]
  unfold wM
  cases hf : firstF (fM x) 0 x.1.length with
  | none => rfl
  | some p => rfl

theorem tris_eq (x : ScT) (hx : x.2.1.length ≤ 60) : scene_tris x = some (mkErr (wT x)) := by
  have run := iter_first (t := scene_tris.t0) (fun k => (x, .nil, (-1048576, 1048576), x.2.1, (x.2.1.length : Int), (k : Int), ())) (fT x) (fun k w => (x, mkErr (some w), (-1048576, 1048576), x.2.1, (x.2.1.length : Int), (k : Int), ())) (e := .exit 0) (z := (x, .nil, (-1048576, 1048576), x.2.1, (x.2.1.length : Int), (x.2.1.length : Int), ())) (by simp) x.2.1.length 0 rounds
    (fun k _ hk hf => by
      have hlt : k < x.2.1.length := by omega
      unfold fT at hf
      rw [List.getElem?_eq_getElem hlt, Option.bind_some] at hf
      generalize hm : x.2.1[k] = m at hf
      unfold scene_tris.t0
      dsimp only
      rw [tr_ite, decide_eq_true (by omega), if_pos rfl, tr_opt, lget_nat x.2.1 hlt, Option.bind_some, hm, tr_ite]
      unfold triW at hf
      split at hf
      · cases hf
      rename_i h1
      rw [if_neg h1, tr_opt, within3, Option.bind_some, tr_ite]
      split at hf
      · cases hf
      rename_i h2
      have h2 : (in3 m.1 (-1048576) 1048576 && in3 m.2.1 (-1048576) 1048576 && in3 m.2.2.1 (-1048576) 1048576) = true := nf h2
      simp only [Bool.and_eq_true] at h2
      obtain ⟨⟨q1, q2⟩, q3⟩ := h2
      rw [q1, if_neg (by simp), tr_opt, within3, Option.bind_some, tr_ite, q2, if_neg (by simp), tr_opt, within3, Option.bind_some, tr_ite, q3, if_neg (by simp), tr_ite, W_sub0, W_sub0, W_sub0]
      split at hf
      · cases hf
      rename_i h3
      have h3' : ¬ (W (W (m.2.1.2.1 - m.1.2.1) * W (m.2.2.1.2.2 - m.1.2.2)) == W (W (m.2.1.2.2 - m.1.2.2) * W (m.2.2.1.2.1 - m.1.2.1)) && (W (W (m.2.1.2.2 - m.1.2.2) * W (m.2.2.1.1 - m.1.1)) == W (W (m.2.1.1 - m.1.1) * W (m.2.2.1.2.2 - m.1.2.2)) && W (W (m.2.1.1 - m.1.1) * W (m.2.2.1.2.1 - m.1.2.1)) == W (W (m.2.1.2.1 - m.1.2.1) * W (m.2.2.1.1 - m.1.1)))) = true := h3
      rw [if_neg h3', tr_ret, W_succ (by omega)])
    (fun k w _ hk hf => by
      have hlt : k < x.2.1.length := by omega
      unfold fT at hf
      rw [List.getElem?_eq_getElem hlt, Option.bind_some] at hf
      generalize hm : x.2.1[k] = m at hf
      have hb : scene_bound (3, W ((k : Int) + 1)) = some (mkErr (some (10, 3, ((k + 1 : Nat) : Int)))) := by rw [nn (by omega)]; exact bound_eq (by decide)
      have hb2 : scene_broken (2, W ((k : Int) + 1)) = some (mkErr (some (11, 2, ((k + 1 : Nat) : Int)))) := by rw [nn (by omega)]; exact broken_eq (by decide)
      have hb3 : scene_broken (13, W ((k : Int) + 1)) = some (mkErr (some (11, 13, ((k + 1 : Nat) : Int)))) := by rw [nn (by omega)]; exact broken_eq (by decide)
      unfold scene_tris.t0
      dsimp only
      rw [tr_ite, decide_eq_true (by omega), if_pos rfl, tr_opt, lget_nat x.2.1 hlt, Option.bind_some, hm, tr_ite]
      unfold triW at hf
      split at hf
      · rename_i h1
        cases hf
        rw [if_pos h1, tr_opt, hb2, Option.bind_some, tr_ret]
      rename_i h1
      rw [if_neg h1, tr_opt, within3, Option.bind_some, tr_ite, tr_opt, hb]
      split at hf
      · rename_i h2
        cases hf
        cases q1 : in3 m.1 (-1048576) 1048576
        · rw [if_pos (by simp), Option.bind_some, tr_ret]
        · rw [if_neg (by simp), tr_opt, within3, Option.bind_some, tr_ite]
          cases q2 : in3 m.2.1 (-1048576) 1048576
          · rw [if_pos (by simp), tr_opt, Option.bind_some, tr_ret]
          · rw [if_neg (by simp), tr_opt, within3, Option.bind_some, tr_ite]
            cases q3 : in3 m.2.2.1 (-1048576) 1048576
            · rw [if_pos (by simp), tr_opt, Option.bind_some, tr_ret]
            · rw [q1, q2, q3] at h2; cases h2
      rename_i h2
      have h2 : (in3 m.1 (-1048576) 1048576 && in3 m.2.1 (-1048576) 1048576 && in3 m.2.2.1 (-1048576) 1048576) = true := nf h2
      simp only [Bool.and_eq_true] at h2
      obtain ⟨⟨q1, q2⟩, q3⟩ := h2
      rw [q1, if_neg (by simp), tr_opt, within3, Option.bind_some, tr_ite, q2, if_neg (by simp), tr_opt, within3, Option.bind_some, tr_ite, q3, if_neg (by simp), tr_ite, W_sub0, W_sub0, W_sub0]
      split at hf
      · rename_i h3
        cases hf
        have h3' : (W (W (m.2.1.2.1 - m.1.2.1) * W (m.2.2.1.2.2 - m.1.2.2)) == W (W (m.2.1.2.2 - m.1.2.2) * W (m.2.2.1.2.1 - m.1.2.1)) && (W (W (m.2.1.2.2 - m.1.2.2) * W (m.2.2.1.1 - m.1.1)) == W (W (m.2.1.1 - m.1.1) * W (m.2.2.1.2.2 - m.1.2.2)) && W (W (m.2.1.1 - m.1.1) * W (m.2.2.1.2.1 - m.1.2.1)) == W (W (m.2.1.2.1 - m.1.2.1) * W (m.2.2.1.1 - m.1.1)))) = true := h3
        rw [if_pos h3', tr_opt, hb3, Option.bind_some, tr_ret]
      · cases hf)
    (by
      rw [Nat.zero_add]
      unfold scene_tris.t0
      dsimp only
      rw [tr_ite, decide_eq_false (by omega), if_neg (by simp), tr_ret]) (rounds_gt (by omega))
  have hl : scene_tris.l0 (x, .nil, (-1048576, 1048576), x.2.1, (x.2.1.length : Int), 0, ()) = _ := run
  unfold scene_tris scene_tris.t
  rw [tr_opt, hl, Option.bind_some]
  unfold wT
  cases hf : firstF (fT x) 0 x.2.1.length with
  | none => rfl
  | some p => rfl
end Go.Proofs.Pen
