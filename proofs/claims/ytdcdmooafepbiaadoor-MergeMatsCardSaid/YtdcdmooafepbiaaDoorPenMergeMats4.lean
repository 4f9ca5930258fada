/- A part of the proof that the law MergeMats is true of every input: models of the functions that the law reaches, and what holds of them. -/
import Derived.Test.YtdcdmooafepbiaaDoorRows
import Derived.KernelRfl
import Derived.WalkKit
import Derived.LaidEql
import Derived.Stop.Asserts
import Derived.RowKitTokens
import Derived.Deep.RegionLaw
import Derived.Lib.Walk
import Derived.Lib.SliceRun
import Derived.Deep.MidRow
import Derived.Test.YtdcdmooafepbiaaDoorChecked
import Derived.Test.YtdcdmooafepbiaaDoorPenKit0
import Derived.Test.YtdcdmooafepbiaaDoorPenKit1
import Derived.Test.YtdcdmooafepbiaaDoorPenKit2
import Derived.Test.YtdcdmooafepbiaaDoorPenKit3
namespace Go.Proofs.Pen
open Go Go.Proofs

/-! ### A loop that looks through a list -/
theorem iter_scan_from {σ α : Type} {t : σ → T (Ex × σ)} {l : List α} {good : α → Bool} {st zr : Nat → σ} {ze : σ} {er ee : Ex} (hstep : ∀ i (h : i < l.length), (t (st i)).run = some (if good l[i] then (.normal, st (i + 1)) else (er, zr i)))
    (hend : (t (st l.length)).run = some (ee, ze)) (her : er ≠ .normal) (hee : ee ≠ .normal) : ∀ (n k m : Nat), k + n = l.length → n < m →
      ((l.drop k).all good = true ∧ (iterT t m (st k)).run = some (ee, ze)) ∨ ((l.drop k).all good = false ∧ ∃ i, (iterT t m (st k)).run = some (er, zr i))
  | n, k, 0, _, hm => absurd hm (Nat.not_lt_zero _)
  | 0, k, m + 1, hk, _ => by
    have : k = l.length := by omega
    subst this
    refine .inl ⟨by simp, ?_⟩
    rw [iter_step hend]
    cases ee <;> first | rfl | exact absurd rfl hee
  | n + 1, k, m + 1, hk, hm => by
    have hlt : k < l.length := by omega
    have hs := hstep k hlt
    rw [List.drop_eq_getElem_cons hlt, List.all_cons]
    by_cases hg : good l[k] = true
    · rw [if_pos hg] at hs
      rw [hg, Bool.true_and, iter_step hs]
      exact iter_scan_from hstep hend her hee n (k + 1) m (by omega) (by omega)
    · rw [if_neg hg] at hs
      have : good l[k] = false := by simpa using hg
      rw [this]
      refine .inr ⟨rfl, k, ?_⟩
      rw [iter_step hs]
      cases er <;> first | rfl | exact absurd rfl her

theorem iter_scan {σ α : Type} {t : σ → T (Ex × σ)} (l : List α) (good : α → Bool) (st zr : Nat → σ) (ze : σ) (er ee : Ex) (hstep : ∀ i (h : i < l.length), (t (st i)).run = some (if good l[i] then (.normal, st (i + 1)) else (er, zr i)))
    (hend : (t (st l.length)).run = some (ee, ze)) (her : er ≠ .normal) (hee : ee ≠ .normal) {m : Nat} (hm : l.length < m) :
      (l.all good = true ∧ (iterT t m (st 0)).run = some (ee, ze)) ∨ (l.all good = false ∧ ∃ i, (iterT t m (st 0)).run = some (er, zr i)) :=
  iter_scan_from hstep hend her hee l.length 0 m (by omega) hm

/-- A loop that goes through a list. -/
theorem iter_count {σ : Type} {t : σ → T (Ex × σ)} (st : Nat → σ) {e : Ex} {z : σ} (he : e ≠ .normal) : ∀ (n k m : Nat), (∀ i, k ≤ i → i < k + n → (t (st i)).run = some (.normal, st (i + 1))) → (t (st (k + n))).run = some (e, z) → n < m → (iterT t m (st k)).run = some (e, z)
  | n, k, 0, _, _, hm => absurd hm (Nat.not_lt_zero _)
  | 0, k, m + 1, _, h2, _ => by
    rw [Nat.add_zero] at h2
    rw [iter_step h2]
    cases e <;> first | rfl | exact absurd rfl he
  | n + 1, k, m + 1, h1, h2, hm => by
    rw [iter_step (h1 k (Nat.le_refl _) (by omega))]
    exact iter_count st he n (k + 1) m (fun i a b => h1 i (by omega) (by omega)) (by rw [show k + 1 + n = k + (n + 1) by omega]; exact h2) (by omega)

theorem lget_nat {α : Type} (l : List α) {k : Nat} (h : k < l.length) : lget l (k : Int) = some l[k] := by
  unfold lget
  rw [if_neg (by omega), Int.toNat_natCast, List.getElem?_eq_getElem h]

theorem take_all {α : Type} (l : List α) (v : α) : List.take (l.length + 1) (List.take l.length l ++ [v]) = l ++ [v] := by
  rw [List.take_length, List.take_of_length_le (by simp)]

theorem W_succ {k : Nat} (h : k < 100000) : W ((k : Int) + 1) = ((k + 1 : Nat) : Int) := by
  rw [W_id (by omega) (by omega)]; omega

theorem room {n c : Nat} (h : n < 100000) (hc : c ≤ 1000) : (n + 1) * c ≤ most := by
  have : (n + 1) * c ≤ 100000 * 1000 := Nat.mul_le_mul (by omega) hc
  unfold most; omega
end Go.Proofs.Pen

namespace Go.Proofs.Pen
open Go Go.Proofs Go.ChangeShapes Go.WideShapes Go.RowKit Go.Proofs.YtdcdmooafepbiaaDoor

/-- What this program's one laid variable reads as. -/
def doorL : List (String × DataW Unit) := [("errors.errorType", .iface "internal/reflectlite.rtype" (.agg [.ptr (.lit (.string [101, 114, 114, 111, 114]))]))]

theorem door_glob : ∀ W, laidMetH Tryd.prog doorL W → ∀ a u, globOf Tryd.prog a = some u → W.cell? a = some u := fun _ h =>
  glob_laid (n := 163) (g := 0) (rt := 116) (ty := 35) (by kernel_rfl) (by kernel_rfl) (by kernel_rfl) (by kernel_rfl) h

theorem door_globOf : globOf Tryd.prog ⟨0, 0, none⟩ = some (.iface 116 (.agg #[.pointer (some ⟨1, 35, none⟩)])) := by kernel_rfl

/-- A world in which it is laid. -/
noncomputable def doorWorld (os : Os) : World :=
  let w0 := World.holding Tryd.prog os ⟨#[], #[], []⟩
  { w0 with heap := w0.heap.modify 0 fun
      | .cells _ t frozen => .cells #[.iface 116 (.agg #[.pointer (some ⟨1, 35, none⟩)])] t frozen
      | o => o }
theorem doorWorld_met (os : Os) (args : Array Value) : laidMetH Tryd.prog doorL ((doorWorld os).forCall (fun _ _ => 0) ⟨#[], args, []⟩).memory :=
  laidMetH_of_parts (laidMet_nil _ _) (by kernel_rfl)

end Go.Proofs.Pen

namespace Go.Proofs.Pen.As
open Go Go.Proofs Go.RowKit Go.Extern.Stop Go.Stop Go.Extern Go.Proofs.YtdcdmooafepbiaaDoor

/-! errors.As at the targets *Fault (79) and *Errno (80), by its contracts (after the worked ToyasAs): 77: Fault, 38: Errno, 35: error, 116: reflectlite's rtype. -/
theorem as_nil (t : Value) (w : World) : Calls Tryd.prog 37 #[.nilIface, t] w fun e w' => e = .returned (.bool false) ∧ w' = w := by
  go_enter Tryd.func37, Tryd.ntmps37
  go_wp2
  go_ret
  exact ⟨rfl, rfl⟩

abbrev vl (T : Nat) (a : Addr) (f : Int) : Value := .agg #[.pointer (some ⟨1, T, none⟩), .pointer (some a), .int .u64 f]
abbrev ty (T : Nat) : Value := .iface 116 (.agg #[.pointer (some ⟨1, T, none⟩)])

theorem valueOf82 (t : Addr) (w : World) : (ReflectliteValue.unpack (.iface 79 (.pointer (some t)))).run Tryd.prog w
    = .ok (vl 79 ⟨w.heap.size, 0, none⟩ 150) (w.alloc (.cells #[.pointer (some t)] 79)) := by kernel_rfl
theorem valueOf83 (t : Addr) (w : World) : (ReflectliteValue.unpack (.iface 80 (.pointer (some t)))).run Tryd.prog w
    = .ok (vl 80 ⟨w.heap.size, 0, none⟩ 150) (w.alloc (.cells #[.pointer (some t)] 80)) := by kernel_rfl
theorem type82 (a : Addr) (w : World) : (ReflectliteValue.methodAny (ReflectliteValue.valueError "reflectlite.Value.Type" 0) (fun t _ _ _ => ReflectliteType.toType t) #[vl 79 a 150]).run Tryd.prog w = .ok (ty 79) w := by kernel_rfl
theorem type83 (a : Addr) (w : World) : (ReflectliteValue.methodAny (ReflectliteValue.valueError "reflectlite.Value.Type" 0) (fun t _ _ _ => ReflectliteType.toType t) #[vl 80 a 150]).run Tryd.prog w = .ok (ty 80) w := by kernel_rfl
theorem methodKind (h : Value) (w : World) : (Go.method 263 116 (.agg #[h]) "Kind").run Tryd.prog w = .ok (90, h) w := by kernel_rfl
theorem methodElem (h : Value) (w : World) : (Go.method 263 116 (.agg #[h]) "Elem").run Tryd.prog w = .ok (103, .agg #[h]) w := by kernel_rfl
theorem methodImplements (h : Value) (w : World) : (Go.method 263 116 (.agg #[h]) "Implements").run Tryd.prog w = .ok (104, .agg #[h]) w := by kernel_rfl
theorem methodAssignableTo (h : Value) (w : World) : (Go.method 263 116 (.agg #[h]) "AssignableTo").run Tryd.prog w = .ok (101, .agg #[h]) w := by kernel_rfl
theorem kind82 (w : World) : ((ReflectliteType.abiMethod fun t => (fun a : Nat => Value.int IntKind.u8 (a : Int)) <$> Rtype.kind t) #[.pointer (some ⟨1, 79, none⟩)]).run Tryd.prog w = .ok (.int .u8 22) w := by kernel_rfl
theorem kind83 (w : World) : ((ReflectliteType.abiMethod fun t => (fun a : Nat => Value.int IntKind.u8 (a : Int)) <$> Rtype.kind t) #[.pointer (some ⟨1, 80, none⟩)]).run Tryd.prog w = .ok (.int .u8 22) w := by kernel_rfl
theorem kind43 (w : World) : ((ReflectliteType.abiMethod fun t => (fun a : Nat => Value.int IntKind.u8 (a : Int)) <$> Rtype.kind t) #[.pointer (some ⟨1, 77, none⟩)]).run Tryd.prog w = .ok (.int .u8 25) w := by kernel_rfl
theorem kind23 (w : World) : ((ReflectliteType.abiMethod fun t => (fun a : Nat => Value.int IntKind.u8 (a : Int)) <$> Rtype.kind t) #[.pointer (some ⟨1, 38, none⟩)]).run Tryd.prog w = .ok (.int .u8 2) w := by kernel_rfl
theorem elem82 (w : World) : (ReflectliteType.method ReflectliteType.elem #[.agg #[.pointer (some ⟨1, 79, none⟩)]]).run Tryd.prog w = .ok (ty 77) w := by kernel_rfl
theorem elem83 (w : World) : (ReflectliteType.method ReflectliteType.elem #[.agg #[.pointer (some ⟨1, 80, none⟩)]]).run Tryd.prog w = .ok (ty 38) w := by kernel_rfl
theorem implements43 (w : World) : (ReflectliteType.relation "Implements" ReflectliteType.implements_ #[.agg #[.pointer (some ⟨1, 77, none⟩)], ty 35]).run Tryd.prog w = .ok (.bool true) w := by kernel_rfl
theorem implements23 (w : World) : (ReflectliteType.relation "Implements" ReflectliteType.implements_ #[.agg #[.pointer (some ⟨1, 38, none⟩)], ty 35]).run Tryd.prog w = .ok (.bool true) w := by kernel_rfl
theorem typeOf43 (v : Value) (w : World) : (ReflectliteType.typeOf #[.iface 77 v]).run Tryd.prog w = .ok (ty 77) w := by kernel_rfl
theorem typeOf23 (v : Value) (w : World) : (ReflectliteType.typeOf #[.iface 38 v]).run Tryd.prog w = .ok (ty 38) w := by kernel_rfl
theorem assignable43 (w : World) : (ReflectliteType.relation "AssignableTo" ReflectliteType.assignableTo #[.agg #[.pointer (some ⟨1, 77, none⟩)], ty 77]).run Tryd.prog w = .ok (.bool true) w := by kernel_rfl
theorem assignable23 (w : World) : (ReflectliteType.relation "AssignableTo" ReflectliteType.assignableTo #[.agg #[.pointer (some ⟨1, 38, none⟩)], ty 38]).run Tryd.prog w = .ok (.bool true) w := by kernel_rfl
theorem assignable23_43 (w : World) : (ReflectliteType.relation "AssignableTo" ReflectliteType.assignableTo #[.agg #[.pointer (some ⟨1, 38, none⟩)], ty 77]).run Tryd.prog w = .ok (.bool false) w := by kernel_rfl
theorem valueOf23 (n : Int) (w : World) : (ReflectliteValue.unpack (.iface 38 (.int .i64 n))).run Tryd.prog w
    = .ok (vl 38 ⟨w.heap.size, 0, none⟩ 130) (w.alloc (.cells #[.int .i64 n] 38)) := by kernel_rfl
theorem valueOf43 (c l e : Value) (w : World) : (ReflectliteValue.unpack (.iface 77 (.agg #[c, l, e]))).run Tryd.prog w
    = .ok (vl 77 ⟨w.heap.size, 0, none⟩ 153) (w.alloc (.cells #[c, l, e] 77)) := by kernel_rfl
end Go.Proofs.Pen.As

namespace Go.Proofs.Pen.As
open Go Go.Proofs Go.RowKit Go.Extern.Stop Go.Stop Go.Extern Go.Proofs.YtdcdmooafepbiaaDoor

/-! The entries that read or write memory. -/
theorem rlm (z : Sem Value) (f : TypeId → Addr → Nat → Nat → Sem Value) (v : Value) :
    ReflectliteValue.method z f #[v] = (do match ← ReflectliteValue.parts v with | none => z | some (t, a, fl) => f t a fl (fl % 32)) := rfl
theorem parts82 (a : Addr) (w : World) : (ReflectliteValue.parts (vl 79 a 150)).run Tryd.prog w = .ok (some (79, a, 150)) w := by kernel_rfl
theorem parts83 (a : Addr) (w : World) : (ReflectliteValue.parts (vl 80 a 150)).run Tryd.prog w = .ok (some (80, a, 150)) w := by kernel_rfl
theorem under82 : Tryd.prog.underlying 79 = some (.pointer 77) := by kernel_rfl
theorem under83 : Tryd.prog.underlying 80 = some (.pointer 38) := by kernel_rfl
theorem isNil82 (a p : Addr) (W : World) (ha : W.cell? a = some (.pointer (some p))) :
    (ReflectliteValue.method (ReflectliteValue.valueError "reflectlite.Value.IsNil" 0) ReflectliteValue.isNil #[vl 79 a 150]).run Tryd.prog W = .ok (.bool false) W := by
  rw [rlm]
  simp only [Sem.run_bind, parts82, Result.andThen]
  simp [ReflectliteValue.isNil, loadVar, isAgg, underlying, under82, ha, Result.andThen]
theorem isNil83 (a p : Addr) (W : World) (ha : W.cell? a = some (.pointer (some p))) :
    (ReflectliteValue.method (ReflectliteValue.valueError "reflectlite.Value.IsNil" 0) ReflectliteValue.isNil #[vl 80 a 150]).run Tryd.prog W = .ok (.bool false) W := by
  rw [rlm]
  simp only [Sem.run_bind, parts83, Result.andThen]
  simp [ReflectliteValue.isNil, loadVar, isAgg, underlying, under83, ha, Result.andThen]
theorem elemOf82 (w : World) : (Rtype.elem? 79).run Tryd.prog w = .ok (some 77) w := by kernel_rfl
theorem elemOf83 (w : World) : (Rtype.elem? 80).run Tryd.prog w = .ok (some 38) w := by kernel_rfl
theorem mk43 (p : Addr) (w : World) : (ReflectliteValue.mk 77 p ReflectliteValue.flagAddr).run Tryd.prog w = .ok (vl 77 p 409) w := by kernel_rfl
theorem mk23 (p : Addr) (w : World) : (ReflectliteValue.mk 38 p ReflectliteValue.flagAddr).run Tryd.prog w = .ok (vl 38 p 386) w := by kernel_rfl
theorem elemV82 (a p : Addr) (W : World) (ha : W.cell? a = some (.pointer (some p))) :
    (ReflectliteValue.method (ReflectliteValue.valueError "reflectlite.Value.Elem" 0) ReflectliteValue.elem #[vl 79 a 150]).run Tryd.prog W = .ok (vl 77 p 409) W := by
  rw [rlm]
  simp only [Sem.run_bind, parts82, Result.andThen]
  simp [ReflectliteValue.elem, loadVar, isAgg, underlying, under82, ha, Result.andThen, elemOf82, mk43]
theorem elemV83 (a p : Addr) (W : World) (ha : W.cell? a = some (.pointer (some p))) :
    (ReflectliteValue.method (ReflectliteValue.valueError "reflectlite.Value.Elem" 0) ReflectliteValue.elem #[vl 80 a 150]).run Tryd.prog W = .ok (vl 38 p 386) W := by
  rw [rlm]
  simp only [Sem.run_bind, parts83, Result.andThen]
  simp [ReflectliteValue.elem, loadVar, isAgg, underlying, under83, ha, Result.andThen, elemOf83, mk23]
theorem rls (v x : Value) : ReflectliteValue.set #[v, x] = (do
    let (some (dst, a, fl), some (src, b, _)) := (← ReflectliteValue.parts v, ← ReflectliteValue.parts x)
      | unsupported (.noEntry "extern/(internal/reflectlite.Value).Set.zeroValue")
    if fl / ReflectliteValue.flagAddr % 2 == 0 then unsupported (.noEntry "extern/(internal/reflectlite.Value).Set.unaddressable")
    let val ← loadVar src b
    if ← Rtype.directlyAssignable dst src then storeVar dst a val
    else if ← Rtype.implements dst src then
      if (← Rtype.kind src) == 20 then
        match val with
        | .nilIface => unsupported (.noEntry "extern/reflectlite: a nil value of one interface type handed on as a value of another")
        | _ => storeVar dst a val
      else storeVar dst a (.iface src val)
    else panicString ("reflectlite.Set: value of type " ++ (← Rtype.spelt src) ++ " is not assignable to type " ++ (← Rtype.spelt dst))
    pure (.tuple #[])) := rfl
theorem parts23a (a : Addr) (w : World) : (ReflectliteValue.parts (vl 38 a 386)).run Tryd.prog w = .ok (some (38, a, 386)) w := by kernel_rfl
theorem parts23 (a : Addr) (w : World) : (ReflectliteValue.parts (vl 38 a 130)).run Tryd.prog w = .ok (some (38, a, 130)) w := by kernel_rfl
theorem parts43a (a : Addr) (w : World) : (ReflectliteValue.parts (vl 77 a 409)).run Tryd.prog w = .ok (some (77, a, 409)) w := by kernel_rfl
theorem parts43 (a : Addr) (w : World) : (ReflectliteValue.parts (vl 77 a 153)).run Tryd.prog w = .ok (some (77, a, 153)) w := by kernel_rfl
theorem direct23 (w : World) : (Rtype.directlyAssignable 38 38).run Tryd.prog w = .ok true w := by kernel_rfl
theorem direct43 (w : World) : (Rtype.directlyAssignable 77 77).run Tryd.prog w = .ok true w := by kernel_rfl
theorem size23 (w : World) : (sizeOf 38).run Tryd.prog w = .ok 1 w := by kernel_rfl
theorem size43 (w : World) : (sizeOf 77).run Tryd.prog w = .ok 3 w := by kernel_rfl
theorem under23 : Tryd.prog.underlying 38 = some (.int .i64) := by kernel_rfl
/-- Set at an *Errno's variable. -/
theorem set23 (ta b : Addr) (n : Int) (old : Value) (W : World) (hb : W.cell? b = some (.int .i64 n)) (ht : W.cell? ta = some old) (hf : W.frozen? ta = false) :
    (ReflectliteValue.set #[vl 38 ta 386, vl 38 b 130]).run Tryd.prog W = .ok (.tuple #[]) (W.setCell ta (.int .i64 n)) := by
  rw [rls]
  simp only [Sem.run_bind, parts23a, parts23, Result.andThen]
  simp [ReflectliteValue.flagAddr, loadVar, isAgg, underlying, under23, hb, Result.andThen, direct23, storeVar, Value.cells, storeCells, Addr.add]
  rw [run_store Tryd.prog W ta _ _ (by rfl)]
  simp [ht, hf]
end Go.Proofs.Pen.As

namespace Go.Proofs.Pen.As
open Go Go.Proofs Go.RowKit Go.Extern.Stop Go.Stop Go.Extern Go.Proofs.YtdcdmooafepbiaaDoor

theorem isAgg43 (w : World) : (isAgg 77).run Tryd.prog w = .ok true w := by kernel_rfl

/-- A Fault, read out of the Value that holds it. -/
theorem load43 (b : Addr) (c l : Int) (e : Value) (W : World) (hb : CellsIn W b [.int .i64 c, .int .i64 l, e]) : (loadVar 77 b).run Tryd.prog W = .ok (.agg #[.int .i64 c, .int .i64 l, e]) W := by
  have := run_loadCells (P := Tryd.prog) hb
  unfold loadVar
  simp only [Sem.run_bind, isAgg43, Result.andThen, if_pos, size43]
  rw [show ([.int .i64 c, .int .i64 l, e] : List Value).length = 3 from rfl] at this
  rw [this]
  rfl
/-- Set at a Fault's variable: a block of three cells. -/
theorem set43 (B : Nat) (b : Addr) (c l : Int) (e o0 o1 o2 : Value) (W : World) (he : e.oneCell' = true) (hb : CellsIn W b [.int .i64 c, .int .i64 l, e]) (ht : W.heap[B]? = some (.cells #[o0, o1, o2] 77 (0, 0))) :
    (ReflectliteValue.set #[vl 77 ⟨B, 0, none⟩ 409, vl 77 b 153]).run Tryd.prog W = .ok (.tuple #[]) (setBlk W B (.cells #[.int .i64 c, .int .i64 l, e] 77 (0, 0))) := by
  rw [rls]
  have hs := run_storeCells (P := Tryd.prog) [.int .i64 c, .int .i64 l, e] 0 0 [o0, o1, o2] W ht (by simp) (.inl rfl) (by
    intro u hu
    simp only [List.mem_cons, List.not_mem_nil, or_false] at hu
    rcases hu with rfl | rfl | rfl
    · rfl
    · rfl
    · exact he)
  have hl := load43 b c l e W hb
  have hst : (storeVar 77 ⟨B, 0, none⟩ (.agg #[.int .i64 c, .int .i64 l, e])).run Tryd.prog W = .ok () (setBlk W B (.cells #[.int .i64 c, .int .i64 l, e] 77 (0, 0))) := by
    unfold storeVar
    simp only [Sem.run_bind, size43, Result.andThen]
    exact hs
  simp only [Sem.run_bind, parts43a, parts43, Result.andThen]
  simp [ReflectliteValue.flagAddr, hl, hst, direct43, Result.andThen]
end Go.Proofs.Pen.As

namespace Go.Proofs.Pen.As
open Go Go.Proofs Go.RowKit Go.Extern.Stop Go.Stop Go.Extern Go.Proofs.YtdcdmooafepbiaaDoor

abbrev hnd : Value := .iface 116 (.agg #[.pointer (some ⟨1, 35, none⟩)])

set_option maxHeartbeats 4000000 in
theorem as_hit23 (n : Int) (t : Addr) (old : Value) (w : World) (hg : w.cell? ⟨0, 0, none⟩ = some (.iface 116 (.agg #[.pointer (some ⟨1, 35, none⟩)]))) (ht0 : w.cell? t = some old) (hf0 : w.frozen? t = false) :
    Calls Tryd.prog 37 #[.iface 38 (.int .i64 n), .iface 80 (.pointer (some t))] w fun ev w' => ev = .returned (.bool true) ∧ w' = ((((w.alloc (.cells #[.pointer (some t)] 80)).alloc (.cells #[.pointer (some ⟨1, 80, none⟩), .pointer (some ⟨w.heap.size, 0, none⟩), .int .u64 150] 97)).alloc (.cells #[.pointer (some ⟨1, 80, none⟩), .pointer (some ⟨w.heap.size, 0, none⟩), .int .u64 150] 97)).alloc (.cells #[.int .i64 n] 38)).setCell t (.int .i64 n) := by
  have h67 := @run_callFunc_extern Tryd.prog 55 _ (fun args => ReflectliteValue.unpack (args.getD 0 (.tuple #[]))) Tryd.func55 (by kernel_rfl) (by kernel_rfl) (by kernel_rfl) (by kernel_rfl)
  have h68 := @run_callFunc_extern Tryd.prog 56 _ (ReflectliteValue.methodAny (ReflectliteValue.valueError "reflectlite.Value.Type" 0) (fun t _ _ _ => ReflectliteType.toType t)) Tryd.func56 (by kernel_rfl) (by kernel_rfl) (by kernel_rfl) (by kernel_rfl)
  have h69 := @run_callFunc_extern Tryd.prog 57 _ (ReflectliteValue.method (ReflectliteValue.valueError "reflectlite.Value.IsNil" 0) ReflectliteValue.isNil) Tryd.func57 (by kernel_rfl) (by kernel_rfl) (by kernel_rfl) (by kernel_rfl)
  have h127 := @run_callFunc_extern Tryd.prog 90 _ (ReflectliteType.abiMethod fun t => do pure (.int .u8 (← Rtype.kind t))) Tryd.func90 (by kernel_rfl) (by kernel_rfl) (by kernel_rfl) (by kernel_rfl)
  have h136 := @run_callFunc_extern Tryd.prog 103 _ (ReflectliteType.method ReflectliteType.elem) Tryd.func103 (by kernel_rfl) (by kernel_rfl) (by kernel_rfl) (by kernel_rfl)
  have h137 := @run_callFunc_extern Tryd.prog 104 _ (ReflectliteType.relation "Implements" ReflectliteType.implements_) Tryd.func104 (by kernel_rfl) (by kernel_rfl) (by kernel_rfl) (by kernel_rfl)
  have h72 := @run_callFunc_extern Tryd.prog 59 _ ReflectliteType.typeOf Tryd.func59 (by kernel_rfl) (by kernel_rfl) (by kernel_rfl) (by kernel_rfl)
  have h134 := @run_callFunc_extern Tryd.prog 101 _ (ReflectliteType.relation "AssignableTo" ReflectliteType.assignableTo) Tryd.func101 (by kernel_rfl) (by kernel_rfl) (by kernel_rfl) (by kernel_rfl)
  have h99 := @run_callFunc_extern Tryd.prog 69 _ (ReflectliteValue.method (ReflectliteValue.valueError "reflectlite.Value.Elem" 0) ReflectliteValue.elem) Tryd.func69 (by kernel_rfl) (by kernel_rfl) (by kernel_rfl) (by kernel_rfl)
  have h100 := @run_callFunc_extern Tryd.prog 70 _ ReflectliteValue.set Tryd.func70 (by kernel_rfl) (by kernel_rfl) (by kernel_rfl) (by kernel_rfl)
  have tO := typeOf23
  have mA := methodAssignableTo
  have a23 := assignable23
  have v23 := valueOf23
  have f6 := valueOf83
  have f7 := type83
  have mK := methodKind
  have mE := methodElem
  have mI := methodImplements
  have k83 := kind83
  have k23 := kind23
  have e83 := elem83
  have i23 := implements23
  have n8 := isNil83 ⟨w.heap.size, 0, none⟩ t ((w.alloc (.cells #[.pointer (some t)] 80)).alloc (.cells #[.pointer (some ⟨1, 80, none⟩), .pointer (some ⟨w.heap.size, 0, none⟩), .int .u64 150] 97)) (by simp)
  have hlt : 0 < w.heap.size := by
    rcases Nat.eq_zero_or_pos w.heap.size with h0 | h
    · simp [World.cell?, h0] at hg
    · exact h
  have hg2 : ((w.alloc (.cells #[.pointer (some t)] 80)).alloc (.cells #[.pointer (some ⟨1, 80, none⟩), .pointer (some ⟨w.heap.size, 0, none⟩), .int .u64 150] 97)).cell? ⟨0, 0, none⟩ = some (.iface 116 (.agg #[.pointer (some ⟨1, 35, none⟩)])) := by
    rw [World.cell?_alloc_lt _ _ ⟨0, 0, none⟩ (by simp), World.cell?_alloc_lt _ _ ⟨0, 0, none⟩ hlt]; exact hg
  have htl : t.block < w.heap.size := by
    rcases Nat.lt_or_ge t.block w.heap.size with h | h
    · exact h
    · simp [World.cell?, Array.getElem?_eq_none h] at ht0
  have el := elemV83 ⟨w.heap.size, 0, none⟩ t (((w.alloc (.cells #[.pointer (some t)] 80)).alloc (.cells #[.pointer (some ⟨1, 80, none⟩), .pointer (some ⟨w.heap.size, 0, none⟩), .int .u64 150] 97)).alloc (.cells #[.pointer (some ⟨1, 80, none⟩), .pointer (some ⟨w.heap.size, 0, none⟩), .int .u64 150] 97)) (by rw [World.cell?_alloc_lt _ _ ⟨w.heap.size, 0, none⟩ (by simp; omega)]; simp)
  have st := set23 t ⟨w.heap.size + 1 + 1 + 1, 0, none⟩ n old ((((w.alloc (.cells #[.pointer (some t)] 80)).alloc (.cells #[.pointer (some ⟨1, 80, none⟩), .pointer (some ⟨w.heap.size, 0, none⟩), .int .u64 150] 97)).alloc (.cells #[.pointer (some ⟨1, 80, none⟩), .pointer (some ⟨w.heap.size, 0, none⟩), .int .u64 150] 97)).alloc (.cells #[.int .i64 n] 38))
    (by rw [World.cell?_alloc_at _ _ _ _ (by simp)]; rfl)
    (by rw [World.cell?_alloc_lt _ _ t (by simp; omega), World.cell?_alloc_lt _ _ t (by simp; omega), World.cell?_alloc_lt _ _ t (by simp; omega), World.cell?_alloc_lt _ _ t htl]; exact ht0)
    (by rw [World.frozen?_alloc_old _ _ t (by simp; omega), World.frozen?_alloc_old _ _ t (by simp; omega), World.frozen?_alloc_old _ _ t (by simp; omega), World.frozen?_alloc_old _ _ t (Nat.ne_of_lt htl)]; exact hf0)
  go_enter Tryd.func37, Tryd.ntmps37
  go_wp2
  refine wp_loop_rounds 1 ?_
  rw [rounds_succ]
  go_wp2
  go_ret
  exact ⟨rfl, rfl⟩
end Go.Proofs.Pen.As

namespace Go.Proofs.Pen.As
open Go Go.Proofs Go.RowKit Go.Extern.Stop Go.Stop Go.Extern Go.Proofs.YtdcdmooafepbiaaDoor

set_option maxHeartbeats 4000000 in
theorem as_hit43 (c l : Int) (e : Value) (B : Nat) (o0 o1 o2 : Value) (w : World) (he : e.oneCell' = true) (hg : w.cell? ⟨0, 0, none⟩ = some (.iface 116 (.agg #[.pointer (some ⟨1, 35, none⟩)]))) (ht0 : w.heap[B]? = some (.cells #[o0, o1, o2] 77 (0, 0))) :
    Calls Tryd.prog 37 #[.iface 77 (.agg #[.int .i64 c, .int .i64 l, e]), .iface 79 (.pointer (some ⟨B, 0, none⟩))] w fun ev w' => ev = .returned (.bool true) ∧ w' = setBlk ((((w.alloc (.cells #[.pointer (some ⟨B, 0, none⟩)] 79)).alloc (.cells #[.pointer (some ⟨1, 79, none⟩), .pointer (some ⟨w.heap.size, 0, none⟩), .int .u64 150] 97)).alloc (.cells #[.pointer (some ⟨1, 79, none⟩), .pointer (some ⟨w.heap.size, 0, none⟩), .int .u64 150] 97)).alloc (.cells #[.int .i64 c, .int .i64 l, e] 77)) B (.cells #[.int .i64 c, .int .i64 l, e] 77 (0, 0)) := by
  have h67 := @run_callFunc_extern Tryd.prog 55 _ (fun args => ReflectliteValue.unpack (args.getD 0 (.tuple #[]))) Tryd.func55 (by kernel_rfl) (by kernel_rfl) (by kernel_rfl) (by kernel_rfl)
  have h68 := @run_callFunc_extern Tryd.prog 56 _ (ReflectliteValue.methodAny (ReflectliteValue.valueError "reflectlite.Value.Type" 0) (fun t _ _ _ => ReflectliteType.toType t)) Tryd.func56 (by kernel_rfl) (by kernel_rfl) (by kernel_rfl) (by kernel_rfl)
  have h69 := @run_callFunc_extern Tryd.prog 57 _ (ReflectliteValue.method (ReflectliteValue.valueError "reflectlite.Value.IsNil" 0) ReflectliteValue.isNil) Tryd.func57 (by kernel_rfl) (by kernel_rfl) (by kernel_rfl) (by kernel_rfl)
  have h127 := @run_callFunc_extern Tryd.prog 90 _ (ReflectliteType.abiMethod fun t => do pure (.int .u8 (← Rtype.kind t))) Tryd.func90 (by kernel_rfl) (by kernel_rfl) (by kernel_rfl) (by kernel_rfl)
  have h136 := @run_callFunc_extern Tryd.prog 103 _ (ReflectliteType.method ReflectliteType.elem) Tryd.func103 (by kernel_rfl) (by kernel_rfl) (by kernel_rfl) (by kernel_rfl)
  have h137 := @run_callFunc_extern Tryd.prog 104 _ (ReflectliteType.relation "Implements" ReflectliteType.implements_) Tryd.func104 (by kernel_rfl) (by kernel_rfl) (by kernel_rfl) (by kernel_rfl)
  have h72 := @run_callFunc_extern Tryd.prog 59 _ ReflectliteType.typeOf Tryd.func59 (by kernel_rfl) (by kernel_rfl) (by kernel_rfl) (by kernel_rfl)
  have h134 := @run_callFunc_extern Tryd.prog 101 _ (ReflectliteType.relation "AssignableTo" ReflectliteType.assignableTo) Tryd.func101 (by kernel_rfl) (by kernel_rfl) (by kernel_rfl) (by kernel_rfl)
  have h99 := @run_callFunc_extern Tryd.prog 69 _ (ReflectliteValue.method (ReflectliteValue.valueError "reflectlite.Value.Elem" 0) ReflectliteValue.elem) Tryd.func69 (by kernel_rfl) (by kernel_rfl) (by kernel_rfl) (by kernel_rfl)
  have h100 := @run_callFunc_extern Tryd.prog 70 _ ReflectliteValue.set Tryd.func70 (by kernel_rfl) (by kernel_rfl) (by kernel_rfl) (by kernel_rfl)
  have tO := typeOf43
  have mA := methodAssignableTo
  have a43 := assignable43
  have v43 := valueOf43
  have f6 := valueOf82
  have f7 := type82
  have mK := methodKind
  have mE := methodElem
  have mI := methodImplements
  have k82 := kind82
  have k43 := kind43
  have e82 := elem82
  have i43 := implements43
  have n8 := isNil82 ⟨w.heap.size, 0, none⟩ ⟨B, 0, none⟩ ((w.alloc (.cells #[.pointer (some ⟨B, 0, none⟩)] 79)).alloc (.cells #[.pointer (some ⟨1, 79, none⟩), .pointer (some ⟨w.heap.size, 0, none⟩), .int .u64 150] 97)) (by simp)
  have hlt : 0 < w.heap.size := by
    rcases Nat.eq_zero_or_pos w.heap.size with h0 | h
    · simp [World.cell?, h0] at hg
    · exact h
  have hg2 : ((w.alloc (.cells #[.pointer (some ⟨B, 0, none⟩)] 79)).alloc (.cells #[.pointer (some ⟨1, 79, none⟩), .pointer (some ⟨w.heap.size, 0, none⟩), .int .u64 150] 97)).cell? ⟨0, 0, none⟩ = some (.iface 116 (.agg #[.pointer (some ⟨1, 35, none⟩)])) := by
    rw [World.cell?_alloc_lt _ _ ⟨0, 0, none⟩ (by simp), World.cell?_alloc_lt _ _ ⟨0, 0, none⟩ hlt]; exact hg
  have htl : B < w.heap.size := (Array.getElem?_eq_some_iff.1 ht0).1
  have up : ∀ (v : World) (o : Obj), B < v.heap.size → (v.alloc o).heap[B]? = v.heap[B]? := fun v o h => by
    show (v.heap.push o)[B]? = _
    rw [Array.getElem?_push, if_neg (by omega)]
  have el := elemV82 ⟨w.heap.size, 0, none⟩ ⟨B, 0, none⟩ (((w.alloc (.cells #[.pointer (some ⟨B, 0, none⟩)] 79)).alloc (.cells #[.pointer (some ⟨1, 79, none⟩), .pointer (some ⟨w.heap.size, 0, none⟩), .int .u64 150] 97)).alloc (.cells #[.pointer (some ⟨1, 79, none⟩), .pointer (some ⟨w.heap.size, 0, none⟩), .int .u64 150] 97)) (by rw [World.cell?_alloc_lt _ _ ⟨w.heap.size, 0, none⟩ (by simp; omega)]; simp)
  have st := set43 B ⟨w.heap.size + 1 + 1 + 1, 0, none⟩ c l e o0 o1 o2 (((((w.alloc (.cells #[.pointer (some ⟨B, 0, none⟩)] 79)).alloc (.cells #[.pointer (some ⟨1, 79, none⟩), .pointer (some ⟨w.heap.size, 0, none⟩), .int .u64 150] 97)).alloc (.cells #[.pointer (some ⟨1, 79, none⟩), .pointer (some ⟨w.heap.size, 0, none⟩), .int .u64 150] 97)).alloc (.cells #[.int .i64 c, .int .i64 l, e] 77))) he
    (by
      intro j u hj
      show World.cell? _ (Addr.add ⟨w.heap.size + 1 + 1 + 1, 0, none⟩ j) = some u
      rw [add_none, Nat.zero_add, World.cell?_alloc_at _ _ _ _ (by simp)]
      simpa using hj)
    (by rw [up _ _ (by simp; omega), up _ _ (by simp; omega), up _ _ (by simp; omega), up _ _ htl]; exact ht0)
  go_enter Tryd.func37, Tryd.ntmps37
  go_wp2
  refine wp_loop_rounds 1 ?_
  rw [rounds_succ]
  go_wp2
  go_ret
  exact ⟨rfl, rfl⟩
end Go.Proofs.Pen.As

namespace Go.Proofs.Pen.As
open Go Go.Proofs Go.RowKit Go.Extern.Stop Go.Stop Go.Extern Go.Proofs.YtdcdmooafepbiaaDoor

theorem noAs (v : Value) (xT : TypeId) (w : World) : (Instr.typeAssert (.iface 38 v) xT 120 true).run Tryd.prog w = .ok (.tuple #[.nilIface, .bool false]) w := run_typeAssert_lacksB Tryd.underlying120 (by kernel_rfl) (by kernel_rfl) v xT w
theorem noUnwrap (v : Value) (xT : TypeId) (w : World) : (Instr.typeAssert (.iface 38 v) xT 123 true).run Tryd.prog w = .ok (.tuple #[.nilIface, .bool false]) w := run_typeAssert_lacksB Tryd.underlying123 (by kernel_rfl) (by kernel_rfl) v xT w
theorem noUnwraps (v : Value) (xT : TypeId) (w : World) : (Instr.typeAssert (.iface 38 v) xT 125 true).run Tryd.prog w = .ok (.tuple #[.nilIface, .bool false]) w := run_typeAssert_lacksB Tryd.underlying125 (by kernel_rfl) (by kernel_rfl) v xT w

set_option maxHeartbeats 4000000 in
theorem as_miss (n : Int) (t : Addr) (w : World) (hg : w.cell? ⟨0, 0, none⟩ = some (.iface 116 (.agg #[.pointer (some ⟨1, 35, none⟩)]))) :
    Calls Tryd.prog 37 #[.iface 38 (.int .i64 n), .iface 79 (.pointer (some t))] w fun ev w' => ev = .returned (.bool false) ∧ w' = (((w.alloc (.cells #[.pointer (some t)] 79)).alloc (.cells #[.pointer (some ⟨1, 79, none⟩), .pointer (some ⟨w.heap.size, 0, none⟩), .int .u64 150] 97)).alloc (.cells #[.pointer (some ⟨1, 79, none⟩), .pointer (some ⟨w.heap.size, 0, none⟩), .int .u64 150] 97)) := by
  have h67 := @run_callFunc_extern Tryd.prog 55 _ (fun args => ReflectliteValue.unpack (args.getD 0 (.tuple #[]))) Tryd.func55 (by kernel_rfl) (by kernel_rfl) (by kernel_rfl) (by kernel_rfl)
  have h68 := @run_callFunc_extern Tryd.prog 56 _ (ReflectliteValue.methodAny (ReflectliteValue.valueError "reflectlite.Value.Type" 0) (fun t _ _ _ => ReflectliteType.toType t)) Tryd.func56 (by kernel_rfl) (by kernel_rfl) (by kernel_rfl) (by kernel_rfl)
  have h69 := @run_callFunc_extern Tryd.prog 57 _ (ReflectliteValue.method (ReflectliteValue.valueError "reflectlite.Value.IsNil" 0) ReflectliteValue.isNil) Tryd.func57 (by kernel_rfl) (by kernel_rfl) (by kernel_rfl) (by kernel_rfl)
  have h127 := @run_callFunc_extern Tryd.prog 90 _ (ReflectliteType.abiMethod fun t => do pure (.int .u8 (← Rtype.kind t))) Tryd.func90 (by kernel_rfl) (by kernel_rfl) (by kernel_rfl) (by kernel_rfl)
  have h136 := @run_callFunc_extern Tryd.prog 103 _ (ReflectliteType.method ReflectliteType.elem) Tryd.func103 (by kernel_rfl) (by kernel_rfl) (by kernel_rfl) (by kernel_rfl)
  have h137 := @run_callFunc_extern Tryd.prog 104 _ (ReflectliteType.relation "Implements" ReflectliteType.implements_) Tryd.func104 (by kernel_rfl) (by kernel_rfl) (by kernel_rfl) (by kernel_rfl)
  have h72 := @run_callFunc_extern Tryd.prog 59 _ ReflectliteType.typeOf Tryd.func59 (by kernel_rfl) (by kernel_rfl) (by kernel_rfl) (by kernel_rfl)
  have h134 := @run_callFunc_extern Tryd.prog 101 _ (ReflectliteType.relation "AssignableTo" ReflectliteType.assignableTo) Tryd.func101 (by kernel_rfl) (by kernel_rfl) (by kernel_rfl) (by kernel_rfl)
  have tO := typeOf23
  have mA := methodAssignableTo
  have a23 := assignable23_43
  have f6 := valueOf82
  have f7 := type82
  have mK := methodKind
  have mE := methodElem
  have mI := methodImplements
  have k82 := kind82
  have k43 := kind43
  have e82 := elem82
  have i43 := implements43
  have n8 := isNil82 ⟨w.heap.size, 0, none⟩ t ((w.alloc (.cells #[.pointer (some t)] 79)).alloc (.cells #[.pointer (some ⟨1, 79, none⟩), .pointer (some ⟨w.heap.size, 0, none⟩), .int .u64 150] 97)) (by simp)
  have hlt : 0 < w.heap.size := by
    rcases Nat.eq_zero_or_pos w.heap.size with h0 | h
    · simp [World.cell?, h0] at hg
    · exact h
  have hg2 : ((w.alloc (.cells #[.pointer (some t)] 79)).alloc (.cells #[.pointer (some ⟨1, 79, none⟩), .pointer (some ⟨w.heap.size, 0, none⟩), .int .u64 150] 97)).cell? ⟨0, 0, none⟩ = some (.iface 116 (.agg #[.pointer (some ⟨1, 35, none⟩)])) := by
    rw [World.cell?_alloc_lt _ _ ⟨0, 0, none⟩ (by simp), World.cell?_alloc_lt _ _ ⟨0, 0, none⟩ hlt]; exact hg
  have q1 := noAs
  have q2 := noUnwrap
  have q3 := noUnwraps
  go_enter Tryd.func37, Tryd.ntmps37
  go_wp2
  refine wp_loop_rounds 1 ?_
  rw [rounds_succ]
  go_wp2
  go_ret
  exact ⟨rfl, rfl⟩
end Go.Proofs.Pen.As

namespace Go.Proofs.Pen.As
open Go Go.Proofs Go.RowKit Go.Extern.Stop Go.Stop Go.Extern Go.Proofs.YtdcdmooafepbiaaDoor

/-- The two variables of fault.Code. -/
noncomputable abbrev two (w : World) : World := (w.alloc (.cells #[.int .i64 0, .int .i64 0, .nilIface] 77)).alloc (.cells #[.int .i64 0] 38)

theorem code_nil (w : World) : Calls Tryd.prog 13 #[.nilIface] w fun ev w' => ev = .returned (.int .i64 0) ∧ w' = two w := by
  go_enter Tryd.func13, Tryd.ntmps13
  go_wp2
  go_ret
  exact ⟨rfl, rfl⟩

theorem kept_alloc (w : World) (o : Obj) : Below w.heap.size w (w.alloc o) := ⟨rfl, rfl, rfl, by show _ ≤ (w.heap.push o).size; simp, fun b hb => by
  show (w.heap.push o)[b]? = _
  rw [Array.getElem?_push, if_neg (by omega)]⟩
theorem below_more {n : Nat} {a b c : World} (h : Below n a b) (k : Below b.heap.size b c) (hn : n ≤ b.heap.size) : Below n a c :=
  ⟨k.os.trans h.os, k.tape.trans h.tape, k.output.trans h.output, Nat.le_trans h.size k.size, fun x hx => (k.block x (by omega)).trans (h.block x hx)⟩

theorem four (w : World) (a b c d : Obj) : Below w.heap.size w ((((w.alloc a).alloc b).alloc c).alloc d) :=
  below_more (below_more (below_more (kept_alloc w a) (kept_alloc _ b) (by simp)) (kept_alloc _ c) (by simp; omega)) (kept_alloc _ d) (by simp; omega)
theorem below_set {m n B : Nat} {w X : World} {o : Obj} (h : Below m w X) (hB : n ≤ B) (hn : n ≤ m) : Below n w (setBlk X B o) :=
  ⟨h.os, h.tape, h.output, by show _ ≤ (Array.setIfInBounds _ _ _).size; rw [Array.size_setIfInBounds]; exact h.size, fun b hb => by rw [setBlk_other (by omega)]; exact h.block b (by omega)⟩

/-- What errors.As leaves at a Fault. -/
theorem hit43 (c l : Int) (e : Value) (B : Nat) (o0 o1 o2 : Value) (w : World) (he : e.oneCell' = true) (hg : w.cell? ⟨0, 0, none⟩ = some (.iface 116 (.agg #[.pointer (some ⟨1, 35, none⟩)]))) (ht0 : w.heap[B]? = some (.cells #[o0, o1, o2] 77 (0, 0))) :
    Calls Tryd.prog 37 #[.iface 77 (.agg #[.int .i64 c, .int .i64 l, e]), .iface 79 (.pointer (some ⟨B, 0, none⟩))] w fun ev w' => ev = .returned (.bool true) ∧ w'.cell? ⟨B, 0, none⟩ = some (.int .i64 c) ∧ ∀ n, n ≤ B → Below n w w' := by
  refine (as_hit43 c l e B o0 o1 o2 w he hg ht0).mono ?_
  rintro ev w' ⟨rfl, rfl⟩
  have htl : B < w.heap.size := (Array.getElem?_eq_some_iff.1 ht0).1
  refine ⟨rfl, ?_, fun n hn => ?_⟩
  · have hB : (World.heap _)[B]? = some (.cells #[o0, o1, o2] 77 (0, 0)) := ((four w (.cells #[.pointer (some ⟨B, 0, none⟩)] 79) (.cells #[.pointer (some ⟨1, 79, none⟩), .pointer (some ⟨w.heap.size, 0, none⟩), .int .u64 150] 97) (.cells #[.pointer (some ⟨1, 79, none⟩), .pointer (some ⟨w.heap.size, 0, none⟩), .int .u64 150] 97) (.cells #[.int .i64 c, .int .i64 l, e] 77)).block B htl).trans ht0
    have := setBlk_at (o := .cells #[.int .i64 c, .int .i64 l, e] 77 (0, 0)) hB
    exact cell_at (vs := [.int .i64 c, .int .i64 l, e]) this 0
  · exact below_set (four w _ _ _ _) hn (by omega)

set_option maxHeartbeats 4000000 in
theorem code_fault (c l : Int) (e : Value) (w : World) (he : e.oneCell' = true) (hg : w.cell? ⟨0, 0, none⟩ = some (.iface 116 (.agg #[.pointer (some ⟨1, 35, none⟩)]))) :
    Calls Tryd.prog 13 #[.iface 77 (.agg #[.int .i64 c, .int .i64 l, e])] w fun ev w' => ev = .returned (.int .i64 c) ∧ Below w.heap.size w w' := by
  have hlt : 0 < w.heap.size := by
    rcases Nat.eq_zero_or_pos w.heap.size with h0 | h
    · simp [World.cell?, h0] at hg
    · exact h
  have hgA : (two w).cell? ⟨0, 0, none⟩ = some (.iface 116 (.agg #[.pointer (some ⟨1, 35, none⟩)])) := by
    rw [World.cell?_alloc_lt _ _ ⟨0, 0, none⟩ (by simp), World.cell?_alloc_lt _ _ ⟨0, 0, none⟩ hlt]; exact hg
  have htA : (two w).heap[w.heap.size]? = some (.cells #[.int .i64 0, .int .i64 0, .nilIface] 77 (0, 0)) := by
    show ((w.heap.push _).push _)[w.heap.size]? = _
    rw [Array.getElem?_push, if_neg (by simp), Array.getElem?_push, if_pos rfl]
  have hbA : Below w.heap.size w (two w) := below_more (kept_alloc w _) (kept_alloc _ _) (by simp)
  go_enter Tryd.func13, Tryd.ntmps13
  go_wp2_with (first | (go_at_call 37; refine (hit43 _ _ _ _ _ _ _ _ he hgA htA).mono ?_; rintro ev w' ⟨rfl, hc, hb⟩))
  go_ret
  refine ⟨rfl, ?_⟩
  have := hb w.heap.size (Nat.le_refl _)
  exact ⟨this.os.trans hbA.os, this.tape.trans hbA.tape, this.output.trans hbA.output, Nat.le_trans hbA.size this.size, fun b hb' => (this.block b hb').trans (hbA.block b hb')⟩
end Go.Proofs.Pen.As

namespace Go.Proofs.Pen.As
open Go Go.Proofs Go.RowKit Go.Extern.Stop Go.Stop Go.Extern Go.Proofs.YtdcdmooafepbiaaDoor

theorem three (w : World) (a b c : Obj) : Below w.heap.size w (((w.alloc a).alloc b).alloc c) :=
  below_more (below_more (kept_alloc w a) (kept_alloc _ b) (by simp)) (kept_alloc _ c) (by simp; omega)

theorem miss43 (n : Int) (t : Addr) (w : World) (hg : w.cell? ⟨0, 0, none⟩ = some (.iface 116 (.agg #[.pointer (some ⟨1, 35, none⟩)]))) :
    Calls Tryd.prog 37 #[.iface 38 (.int .i64 n), .iface 79 (.pointer (some t))] w fun ev w' => ev = .returned (.bool false) ∧ Below w.heap.size w w' := by
  refine (as_miss n t w hg).mono ?_
  rintro ev w' ⟨rfl, rfl⟩
  exact ⟨rfl, three w _ _ _⟩

theorem hit23 (n : Int) (B : Nat) (old : Value) (w : World) (hg : w.cell? ⟨0, 0, none⟩ = some (.iface 116 (.agg #[.pointer (some ⟨1, 35, none⟩)]))) (ht0 : w.heap[B]? = some (.cells #[old] 38 (0, 0))) :
    Calls Tryd.prog 37 #[.iface 38 (.int .i64 n), .iface 80 (.pointer (some ⟨B, 0, none⟩))] w fun ev w' => ev = .returned (.bool true) ∧ w'.cell? ⟨B, 0, none⟩ = some (.int .i64 n) ∧ ∀ m, m ≤ B → Below m w w' := by
  have htl : B < w.heap.size := (Array.getElem?_eq_some_iff.1 ht0).1
  refine (as_hit23 n ⟨B, 0, none⟩ old w hg (cell_at (vs := [old]) ht0 0) (by simp [World.frozen?, ht0])).mono ?_
  rintro ev w' ⟨rfl, rfl⟩
  have hB : (World.heap _)[B]? = some (.cells [old].toArray 38 (0, 0)) := ((four w (.cells #[.pointer (some ⟨B, 0, none⟩)] 80) (.cells #[.pointer (some ⟨1, 80, none⟩), .pointer (some ⟨w.heap.size, 0, none⟩), .int .u64 150] 97) (.cells #[.pointer (some ⟨1, 80, none⟩), .pointer (some ⟨w.heap.size, 0, none⟩), .int .u64 150] 97) (.cells #[.int .i64 n] 38)).block B htl).trans ht0
  rw [setCell_setBlk hB]
  exact ⟨rfl, cell_at (vs := [.int .i64 n]) (setBlk_at hB) 0, fun m hm => below_set (four w _ _ _ _) hm (by omega)⟩

set_option maxRecDepth 100000 in
set_option maxHeartbeats 4000000 in
theorem code_errno (n : Int) (w : World) (hg : w.cell? ⟨0, 0, none⟩ = some (.iface 116 (.agg #[.pointer (some ⟨1, 35, none⟩)]))) :
    Calls Tryd.prog 13 #[.iface 38 (.int .i64 n)] w fun ev w' => ev = .returned (.int .i64 n) ∧ Below w.heap.size w w' := by
  have hlt : 0 < w.heap.size := by
    rcases Nat.eq_zero_or_pos w.heap.size with h0 | h
    · simp [World.cell?, h0] at hg
    · exact h
  have hgA : (two w).cell? ⟨0, 0, none⟩ = some (.iface 116 (.agg #[.pointer (some ⟨1, 35, none⟩)])) := by
    rw [World.cell?_alloc_lt _ _ ⟨0, 0, none⟩ (by simp), World.cell?_alloc_lt _ _ ⟨0, 0, none⟩ hlt]; exact hg
  have htA : (two w).heap[w.heap.size + 1]? = some (.cells #[.int .i64 0] 38 (0, 0)) := by
    show ((w.heap.push _).push _)[w.heap.size + 1]? = _
    rw [Array.getElem?_push, if_pos (by simp)]
  have hbA : Below w.heap.size w (two w) := below_more (kept_alloc w _) (kept_alloc _ _) (by simp)
  have hszA : (two w).heap.size = w.heap.size + 1 + 1 := by simp
  have step : ∀ w1, Below (two w).heap.size (two w) w1 → w1.cell? ⟨0, 0, none⟩ = some (.iface 116 (.agg #[.pointer (some ⟨1, 35, none⟩)])) ∧ w1.heap[w.heap.size + 1]? = some (.cells #[.int .i64 0] 38 (0, 0)) := fun w1 h => by
    have z0 : 0 < (two w).heap.size := by rw [hszA]; omega
    have z1 : w.heap.size + 1 < (two w).heap.size := by rw [hszA]; omega
    have e0 := h.block 0 z0
    have e1 := h.block _ z1
    refine ⟨?_, e1.trans htA⟩
    rw [← hgA]
    unfold World.cell?
    rw [e0]
  go_enter Tryd.func13, Tryd.ntmps13
  go_wp2_with (first
    | (go_at_call 37; refine (hit23 _ _ _ _ g1 t1).mono ?_; rintro ev w2 ⟨rfl, hc, hb2⟩)
    | (go_at_call 37; refine (miss43 _ _ _ hgA).mono ?_; rintro ev w1 ⟨rfl, hb1⟩; obtain ⟨g1, t1⟩ := step w1 hb1))
  go_ret
  refine ⟨rfl, ?_⟩
  have q := hb2 w.heap.size (by omega)
  exact ⟨q.os.trans (hb1.os.trans hbA.os), q.tape.trans (hb1.tape.trans hbA.tape), q.output.trans (hb1.output.trans hbA.output), Nat.le_trans hbA.size (Nat.le_trans hb1.size q.size),
    fun b hb' => (q.block b hb').trans ((hb1.block b (by omega)).trans (hbA.block b hb'))⟩
end Go.Proofs.Pen.As

namespace Go.Proofs.Pen
open Go Go.Proofs Go.RowKit Go.Extern.Stop Go.Stop Go.Extern Go.Proofs.YtdcdmooafepbiaaDoor

/-- What an error's chain goes on with: nothing, or another error. -/
def linkAV : AV → Bool
  | .nili => true
  | .ifc _ _ => true
  | _ => false

def ErrD.top : ErrD → Int
  | .nil => 0
  | .code n => n
  | .fault c _ _ => c

theorem err_one (tf te : Nat) : ∀ e : ErrD, (errVal tf te e).oneCell' = true
  | .nil => rfl
  | .code _ => rfl
  | .fault _ _ _ => rfl

/-- fault.Code. -/
def codeAV : List AV → T AV
  | [.nili] => .ret (.it .i64 0)
  | [.ifc t (.agg [.it .i64 c, .it .i64 _, e])] => if t = 77 ∧ linkAV e = true then .ret (.it .i64 c) else .fail
  | [.ifc t (.it .i64 n)] => if t = 38 then .ret (.it .i64 n) else .fail
  | [.er tf te x] => if tf = 77 ∧ te = 38 then .ret (.it .i64 x.top) else .fail
  | _ => .fail

theorem link_one {r : Res} {e : AV} {v : Value} (h : linkAV e = true) (hv : VRel r e v) : v.oneCell' = true := by
  cases e <;> simp [linkAV] at h
  · simp only [VRel] at hv; subst hv; rfl
  · simp only [VRel] at hv; obtain ⟨u, rfl, _⟩ := hv; rfl

theorem code_ok : FnOK Tryd.prog 13 codeAV := by
  intro args v hv
  refine ⟨by kernel_rfl, fun r w us hι hp hgl hl => ?_⟩
  have hg : w.cell? ⟨0, 0, none⟩ = some (.iface 116 (.agg #[.pointer (some ⟨1, 35, none⟩)])) := hp _ _ (hgl _ _ door_globOf)
  have close : ∀ (n : Int) (us : List Value), v = .it .i64 n → (Calls Tryd.prog 13 us.toArray w fun ev w' => ev = .returned (.int .i64 n) ∧ Below w.heap.size w w') →
      Calls Tryd.prog 13 us.toArray w fun e w' => ∃ u r', e = .returned u ∧ r.le r' ∧ Below w.heap.size w w' ∧ (∀ a x, r'.H a = some x → w'.cell? a = some x) ∧
        (∀ a x, r'.H a = some x → r.H a = some x ∨ w.heap.size ≤ a.block) ∧ (∀ i, r'.ι i = none) ∧ VRel r' v u := by
    intro n us hvn h
    refine h.mono ?_
    rintro ev w' ⟨rfl, hb⟩
    refine ⟨_, r, rfl, .refl r, hb, fun a x e => ?_, fun a x e => .inl e, hι, by subst hvn; simp only [VRel]⟩
    have hc := hp a x e
    have hlt : a.block < w.heap.size := by
      rcases Nat.lt_or_ge a.block w.heap.size with h | h
      · exact h
      · simp [World.cell?, Array.getElem?_eq_none h] at hc
    rw [← hc]
    exact World.cell?_of_block (hb.block _ hlt)
  unfold codeAV at hv
  split at hv
  · have := run_ret hv; subst this
    simp only [LRel] at hl
    obtain ⟨u, us', rfl, hu, hl⟩ := hl
    simp only [VRel] at hu; subst hu
    subst hl
    refine close 0 _ rfl ((As.code_nil w).mono ?_)
    rintro ev w' ⟨rfl, rfl⟩
    exact ⟨rfl, As.below_more (As.kept_alloc w _) (As.kept_alloc _ _) (by simp)⟩
  · rename_i t c l e
    split at hv
    · rename_i ht
      obtain ⟨rfl, hlk⟩ := ht
      have := run_ret hv; subst this
      simp only [LRel] at hl
      obtain ⟨u, us', rfl, hu, hl⟩ := hl
      subst hl
      simp only [VRel, LRel] at hu
      obtain ⟨u1, rfl, vs, rfl, x1, y1, rfl, rfl, x2, y2, rfl, rfl, x3, y3, rfl, h3, rfl⟩ := hu
      exact close c _ rfl (As.code_fault c l x3 w (link_one hlk h3) hg)
    · exact (run_fail hv).elim
  · rename_i t n
    split at hv
    · rename_i ht
      subst ht
      have := run_ret hv; subst this
      simp only [LRel] at hl
      obtain ⟨u, us', rfl, hu, hl⟩ := hl
      subst hl
      simp only [VRel] at hu
      obtain ⟨u1, rfl, rfl⟩ := hu
      exact close n _ rfl (As.code_errno n w hg)
    · exact (run_fail hv).elim
  · rename_i tf te x
    split at hv
    · rename_i ht
      obtain ⟨rfl, rfl⟩ := ht
      have := run_ret hv; subst this
      simp only [LRel] at hl
      obtain ⟨u, us', rfl, hu, hl⟩ := hl
      subst hl
      simp only [VRel] at hu
      subst hu
      cases x with
      | nil =>
        refine close 0 _ rfl ((As.code_nil w).mono ?_)
        rintro ev w' ⟨rfl, rfl⟩
        exact ⟨rfl, As.below_more (As.kept_alloc w _) (As.kept_alloc _ _) (by simp)⟩
      | code n => exact close n _ rfl (As.code_errno n w hg)
      | fault c l e => exact close c _ rfl (As.code_fault c l (errVal 77 38 e) w (err_one 77 38 e) hg)
    · exact (run_fail hv).elim
  · exact (run_fail hv).elim
end Go.Proofs.Pen

namespace Go.Proofs.Pen
open Go Go.Proofs Go.RowKit Go.Lib

def zt : List Value := List.replicate 10 (.int .i64 0)
def zv : Value := .agg zt.toArray
set_option maxRecDepth 100000 in
theorem zero69 (w : World) : (zeroValue 69).run Tryd.prog w = .ok zv w := by kernel_rfl

theorem run_clear_one (w : World) (ty : TypeId) (b o c : Nat) (hc : ∀ j, j < 10 → (w.cell? ⟨b, o + j, none⟩).isSome = true) (hf : ∀ j, j < 10 → w.frozen? ⟨b, o + j, none⟩ = false) :
    (Builtin.clear_ #[23] ty #[.slice (some ⟨b, o, none⟩) 1 c]).run Tryd.prog w = .ok (.tuple #[]) (w.setCells b o zt) := by
  have hzc : (Builtin.zeroCells (Value.agg #[.int .i64 0, .int .i64 0, .int .i64 0, .int .i64 0, .int .i64 0, .int .i64 0, .int .i64 0, .int .i64 0, .int .i64 0, .int .i64 0]).cells 1).toList = zt := by kernel_rfl
  have hst := run_storeCells_cells (P := Tryd.prog) b o zt 0 w (by intro j hj; exact hc j hj) (by intro j hj; exact hf j hj) (by intro v hv'; rw [List.eq_of_mem_replicate hv']; rfl)
  simp only [Nat.add_zero] at hst
  simp [Builtin.clear_, run_underlying Tryd.underlying23, hzc, hst]

theorem info69 : ∃ i0, Tryd.prog.info? 69 = some i0 ∧ i0.size = 10 := by
  obtain ⟨i, h⟩ := Go.Proofs.Pen.szT_info (P := Tryd.prog) (e := 69) (sz := 10) (by kernel_rfl)
  refine ⟨i, h, ?_⟩
  have : (Tryd.prog.info? 69).map (·.size) = some 10 := by kernel_rfl
  rw [h] at this
  simpa using this

set_option maxHeartbeats 4000000 in
set_option maxRecDepth 1000000 in
theorem del_calls (b n c i j : Nat) (cells : List Value) (w : World) (hn : n * 10 = cells.length) (hj1 : Hid (j = i + 1)) (hij : i < j) (hj : j ≤ n) (hnc : n ≤ c) (h1 : ∀ u ∈ cells, u.oneCell' = true)
    (hH : ∀ k u, cells[k]? = some u → w.cell? ⟨b, k, none⟩ = some u ∧ w.frozen? ⟨b, k, none⟩ = false) :
    Calls Tryd.prog 43 #[.slice (some ⟨b, 0, none⟩) n c, .int .i64 (i : Int), .int .i64 (j : Int)] w fun e w' => e = .returned (.slice (some ⟨b, 0, none⟩) (i + (n - j)) c) ∧
      w' = (w.drew.setCells b (0 + i * 10) (cells.drop (j * 10))).setCells b ((i + (n - j)) * 10) zt := by
  obtain ⟨i0, hi0, hz1⟩ := info69
  obtain ⟨news, hnews⟩ : ∃ news, news = cells.drop (j * 10) := ⟨_, rfl⟩
  have hlen : Hid (news.length = (n - j) * 10) := by rw [hnews, List.length_drop, ← hn, Nat.sub_mul]; exact rfl
  have hlen' : news.length = (n - j) * 10 := hlen
  have hnl : ∀ k, k < n * 10 → ∃ u, cells[k]? = some u := fun k hk => ⟨_, List.getElem?_eq_getElem (by omega)⟩
  obtain ⟨A, hA, hsrc⟩ : ∃ A : Addr, (if c = j then some (⟨b, 0, none⟩ : Addr) else some ⟨b, j * 10, none⟩) = some A ∧ Hid (∀ t u, news[t]? = some u → w.drew.cell? (A.add t) = some u) := by
    by_cases h : c = j
    · refine ⟨⟨b, 0, none⟩, by simp [h], fun t u hu => ?_⟩
      have h0 : news.length = 0 := by rw [hlen']; have : n - j = 0 := by omega
                                      rw [this]
      rw [List.length_eq_zero_iff.1 h0] at hu
      simp at hu
    · refine ⟨⟨b, j * 10, none⟩, by simp [h], fun t u hu => ?_⟩
      rw [hnews, List.getElem?_drop] at hu
      rw [Addr.add_lit]
      exact (hH _ _ hu).1
  have s2 : Hid (∀ u ∈ news, u.oneCell' = true) := by
    intro u hu; rw [hnews] at hu; exact h1 u (List.mem_of_mem_drop hu)
  have s3 : Hid (∀ t, t < news.length → (w.drew.cell? ⟨b, 0 + i * 10 + t, none⟩).isSome = true ∧ w.drew.frozen? ⟨b, 0 + i * 10 + t, none⟩ = false) := by
    intro t ht
    rw [hlen'] at ht
    have hlt : 0 + i * 10 + t < n * 10 := by
      have : (n - j) * 10 = n * 10 - j * 10 := Nat.sub_mul ..
      omega
    obtain ⟨u, hu⟩ := hnl _ hlt
    have := hH _ _ hu
    exact ⟨by show (w.cell? _).isSome = true; rw [this.1]; rfl, this.2⟩
  obtain ⟨W1, hW1⟩ : ∃ W1, W1 = w.drew.setCells b (0 + i * 10) news := ⟨_, rfl⟩
  have hcl : ∀ ty, (Builtin.clear_ #[23] ty #[.slice (some ⟨b, (i + (n - j)) * 10, none⟩) (n - (i + (n - j))) (c - (i + (n - j)))]).run Tryd.prog W1 = .ok (.tuple #[]) (W1.setCells b ((i + (n - j)) * 10) zt) := by
    intro ty
    have e1 : n - (i + (n - j)) = 1 := by have := hj1.out; omega
    rw [e1]
    have hin : ∀ k, k < 10 → (i + (n - j)) * 10 + k < n * 10 := fun k hk => by have := hj1.out; omega
    have ht : w.drew.there b ((i + (n - j)) * 10) 10 := fun k hk => by
      obtain ⟨u, hu⟩ := hnl _ (hin k hk)
      have := hH _ _ hu
      exact ⟨by show (w.cell? _).isSome = true; rw [this.1]; rfl, this.2⟩
    have ht2 : W1.there b ((i + (n - j)) * 10) 10 := by rw [hW1]; exact World.there_setCells ht b _ _
    exact run_clear_one W1 ty b _ _ (fun k hk => (ht2 k hk).1) (fun k hk => (ht2 k hk).2)
  have hW : Hid (W1 = w.drew.setCells b (0 + i * 10) news) := hW1
  have X : Hid (news = cells.drop (j * 10)) := hnews
  have hic : i ≤ c := by omega
  have hjc : j ≤ c := by omega
  clear hW1 hH hnews h1 hnl hlen'
  go_enter Tryd.func43, Tryd.ntmps43
  go_wp2_with fail
  go_region_law (refine step_append_room rfl (.tmp 22) (.tmp 25) 23 rfl 69 i0 10 Tryd.underlying23 hi0 hz1 b 0 i c (by simp [Act.eval, Act.put]) A (n - j) (c - j) news (by simp [Act.eval, Act.put]) hlen.out hsrc.out s2.out (by omega) s3.out ?_; rw [← hW.out])
  go_wp2
  go_ret
  exact ⟨rfl, by rw [hW.out, X.out]⟩
end Go.Proofs.Pen

namespace Go.Proofs.Pen
open Go Go.Proofs Go.RowKit

abbrev P3T : Ty := .st (.pair (.int .i64) (.pair (.int .i64) (.int .i64)))
abbrev TrT : Ty := .st (.pair P3T (.pair P3T (.pair P3T (.int .i64))))
def trZ : (Int × Int × Int) × (Int × Int × Int) × (Int × Int × Int) × Int := (((0 : Int), (0 : Int), (0 : Int)), ((0 : Int), (0 : Int), (0 : Int)), ((0 : Int), (0 : Int), (0 : Int)), (0 : Int))

theorem z3_rel (H : Addr → Option Value) : TRel H P3T (((0 : Int), (0 : Int), (0 : Int)) : Int × Int × Int) [.int .i64 0, .int .i64 0, .int .i64 0] := ⟨[.int .i64 0], [.int .i64 0, .int .i64 0], rfl, rfl, [.int .i64 0], [.int .i64 0], rfl, rfl, rfl⟩
theorem zt_rel (H : Addr → Option Value) : TRel H TrT (trZ : TrT.den) zt :=
  ⟨[.int .i64 0, .int .i64 0, .int .i64 0], List.replicate 7 (.int .i64 0), rfl, z3_rel H, [.int .i64 0, .int .i64 0, .int .i64 0], List.replicate 4 (.int .i64 0), rfl, z3_rel H, [.int .i64 0, .int .i64 0, .int .i64 0], [.int .i64 0], rfl, z3_rel H, rfl⟩

theorem setCells_blk {P : Program} {w : World} {b off : Nat} {vs us : List Value} {e : TypeId} {fz : Nat × Nat} (h : w.heap[b]? = some (.cells vs.toArray e fz)) (hl : off + us.length ≤ vs.length) (ht : Thaw fz vs.length) (h1 : ∀ u ∈ us, u.oneCell' = true) :
    w.setCells b off us = setBlk w b (.cells (spliceV vs off us).toArray e fz) := by
  have a := run_storeCells (P := P) us 0 off vs w h (by omega) ht h1
  have hf : ∀ k, k < us.length → (w.cell? ⟨b, off + k, none⟩).isSome = true ∧ w.frozen? ⟨b, off + k, none⟩ = false := fun k hk => by
    refine ⟨?_, ?_⟩
    · rw [cell_at h]; simp; omega
    · simp only [World.frozen?, h]
      have : fz.1 = fz.2 ∨ vs.length ≤ fz.1 := ht
      simp only [Bool.and_eq_false_iff, decide_eq_false_iff_not]
      omega
  have c := run_storeCells_cells (P := P) b off us 0 w (by simpa using fun k hk => (hf k hk).1) (by simpa using fun k hk => (hf k hk).2) h1
  rw [a] at c
  simp only [Nat.add_zero, Result.ok.injEq, true_and] at c
  exact c.symm

/-- What slices.Delete of one element gives, in place. -/
def deleteD (args : List AV) (own : List Blk) : T (AV × List Blk) :=
  match args with
  | [.osl t' id 0 len none, .it .i64 i, .it .i64 j] => if t' = TrT then (match rowAt own id with
    | .row t'' xs => if h : t'' = TrT then
        .ite (decide (len = xs.length) && (decide (0 ≤ i) && (decide (i < len) && decide (j = i + 1))))
          (.ret (.osl TrT id 0 (len - 1) none, own.set id (.row TrT ((castSl h xs).take i.toNat ++ (castSl h xs).drop (i.toNat + 1) ++ @List.cons TrT.den trZ [])))) .fail
      else .fail
    | _ => .fail) else .fail
  | _ => .fail

theorem row_len {α : Type} (xs : List α) (z : α) {i : Nat} (h : i < xs.length) : (xs.take i ++ xs.drop (i + 1) ++ [z]).length = xs.length := by
  simp only [List.length_append, List.length_take, List.length_drop, List.length_cons, List.length_nil]; omega

theorem delete_deep : ∀ args own v own', (deleteD args own).run = some (v, own') → callable Tryd.prog 43 = true ∧ ∀ (w0 : Base Tryd.prog) (M : Nat → Prop) (r : Res) (w : World) (us : List Value), Rel w0 M (Sn own) own r w → LRel r args us →
    Calls Tryd.prog 43 us.toArray w fun e w' => ∃ u r', e = .returned u ∧ r.le r' ∧ Rel w0 M (Sn own') own' r' w' ∧ VRel r' v u := by
  intro args own v own' h
  refine ⟨by kernel_rfl, fun w0 M r w us hR hl => ?_⟩
  unfold deleteD at h
  split at h
  case h_2 => exact (run_fail h).elim
  rename_i t' id len i j
  split at h
  case isFalse => exact (run_fail h).elim
  rename_i ht
  subst ht
  split at h
  case h_2 => exact (run_fail h).elim
  rename_i t'' xs hrow
  split at h
  case isFalse => exact (run_fail h).elim
  rename_i ht
  subst ht
  obtain ⟨hb, h⟩ := run_ite_fail h
  simp only [Bool.and_eq_true, decide_eq_true_eq] at hb
  obtain ⟨hlen, hi0, hi, hj⟩ := hb
  have hcx : castSl rfl xs = xs := rfl
  rw [hcx] at h
  cases run_ret h
  obtain ⟨i, rfl⟩ : ∃ k : Nat, i = k := ⟨i.toNat, by omega⟩
  subst hj
  subst hlen
  have hin : i < xs.length := by omega
  rw [Int.toNat_natCast]
  simp only [LRel] at hl
  obtain ⟨u1, us1, rfl, h1, u2, us2, rfl, h2, u3, us3, rfl, h3, rfl⟩ := hl
  simp only [VRel] at h1 h2 h3
  subst h2 h3
  obtain ⟨p, c, rfl, hlc, _, hp⟩ := h1
  rcases hp with ⟨h0, _⟩ | ⟨b, C, hι, rfl, hC1, hC2⟩
  · omega
  have hid : own[id]? = some (.row TrT xs) := rowAt_some hrow rfl
  rcases hR.blk id _ (List.getElem?_eq_some_iff.1 hid).1 hid rfl with ⟨b', C', e1, ⟨vs, et, fz, k1, k2, k2', k3, k4, k5⟩, _⟩ | ⟨e1, _⟩
  case inr => rw [hι] at e1; cases e1
  rw [hι] at e1; cases e1
  have hsz : TrT.sz = 10 := rfl
  rw [hsz] at k3
  simp only [hsz] at k5
  have hroom : xs.length * 10 ≤ vs.length := by
    have : C.2 * 10 ≤ C.1 * 10 := Nat.mul_le_mul_right _ k2'
    omega
  have hat : ∀ k, k < xs.length * 10 → ∃ x us, xs[k / 10]? = some x ∧ us.length = 10 ∧ TRel r.H TrT x us ∧ ∃ u, us[k % 10]? = some u ∧ vs[k]? = some u := fun k hk => by
    have h1 : k / 10 < xs.length := by omega
    obtain ⟨us, l1, l2, l3⟩ := k5 (k / 10) _ (List.getElem?_eq_getElem h1)
    have h2 : k % 10 < us.length := by rw [l1]; omega
    refine ⟨_, us, List.getElem?_eq_getElem h1, l1, l2, _, List.getElem?_eq_getElem h2, ?_⟩
    rw [← l3 _ _ (List.getElem?_eq_getElem h2)]
    congr 1
    omega
  obtain ⟨cells, hcells⟩ : ∃ cells, cells = vs.take (xs.length * 10) := ⟨_, rfl⟩
  have hcl : cells.length = xs.length * 10 := by rw [hcells, List.length_take]; omega
  have hcg : ∀ k, k < xs.length * 10 → cells[k]? = vs[k]? := fun k hk => by rw [hcells, List.getElem?_take_of_lt hk]
  have hone : ∀ u ∈ cells, u.oneCell' = true := fun u hu => by
    obtain ⟨k, hk⟩ := List.mem_iff_getElem?.1 hu
    have hkl : k < xs.length * 10 := by rw [← hcl]; exact (List.getElem?_eq_some_iff.1 hk).1
    rw [hcg k hkl] at hk
    obtain ⟨x, us, _, _, l2, u', g1, g2⟩ := hat k hkl
    rw [hk] at g2; cases g2
    exact TRel.one l2 u (List.mem_of_getElem? g1)
  have hold : ∀ k u, cells[k]? = some u → w.cell? ⟨b, k, none⟩ = some u ∧ w.frozen? ⟨b, k, none⟩ = false := fun k u hk => by
    have hkl : k < xs.length * 10 := by rw [← hcl]; exact (List.getElem?_eq_some_iff.1 hk).1
    rw [hcg k hkl] at hk
    refine ⟨by rw [cell_at k1]; simpa using hk, ?_⟩
    have : fz.1 = fz.2 ∨ vs.length ≤ fz.1 := k4
    simp only [World.frozen?, k1]
    simp only [Bool.and_eq_false_iff, decide_eq_false_iff_not]
    omega
  have hcalls := del_calls b xs.length c i (i + 1) cells w hcl.symm rfl (by omega) (by omega) hlc hone hold
  have e0 : (0 : Nat) * TrT.sz = 0 := rfl
  rw [e0]
  refine Calls.mono hcalls ?_
  rintro e w' ⟨rfl, rfl⟩
  obtain ⟨news, hnews⟩ : ∃ news, news = cells.drop ((i + 1) * 10) := ⟨_, rfl⟩
  have hnl : news.length = (xs.length - (i + 1)) * 10 := by rw [hnews, List.length_drop, hcl, Nat.sub_mul]
  have hRd : Rel w0 M (Sn own) own r w.drew := hR.same ⟨rfl, rfl, rfl, rfl⟩
  have k1d : w.drew.heap[b]? = some (.cells vs.toArray et fz) := k1
  have f1 : 0 + i * 10 + news.length ≤ vs.length := by rw [hnl]; omega
  have q1 := setCells_blk (P := Tryd.prog) k1d f1 k4 (fun u hu => hone u (by rw [hnews] at hu; exact List.mem_of_mem_drop hu))
  have hl1 : (spliceV vs (0 + i * 10) news).length = vs.length := by
    rw [spliceV_eq _ _ _ f1]; simp only [List.length_append, List.length_take, List.length_drop]; omega
  have hztl : zt.length = 10 := rfl
  have f2 : (i + (xs.length - (i + 1))) * 10 + zt.length ≤ (spliceV vs (0 + i * 10) news).length := by rw [hl1, hztl]; omega
  have q2 := setCells_blk (P := Tryd.prog) (setBlk_at (o := .cells (spliceV vs (0 + i * 10) news).toArray et fz) k1d) f2 (by rw [hl1]; exact k4) (fun u hu => by rw [List.eq_of_mem_replicate hu]; rfl)
  rw [← hnews, q1, q2, setBlk_setBlk]
  have hl2 : (spliceV (spliceV vs (0 + i * 10) news) ((i + (xs.length - (i + 1))) * 10) zt).length = vs.length := by
    rw [spliceV_eq _ _ _ f2]; simp only [List.length_append, List.length_take, List.length_drop]; omega
  have g2 := spliceV_get zt (spliceV vs (0 + i * 10) news) _ f2
  have g1 := spliceV_get news vs _ f1
  refine ⟨_, r, rfl, .refl r, hRd.write (k' := .row TrT (xs.take i ++ xs.drop (i + 1) ++ @List.cons TrT.den trZ [])) hid rfl hι ⟨_, et, fz, setBlk_at k1d, ?_, k2', ?_, ?_, ?_⟩, ?_⟩
  · exact (row_len (α := TrT.den) xs trZ hin).trans k2
  · rw [hl2, hsz]; exact k3
  · rw [hl2]; exact k4
  · intro a x ha
    rw [hsz]
    have hal : a < xs.length := by
      have := (List.getElem?_eq_some_iff.1 ha).1
      exact Nat.lt_of_lt_of_eq this (row_len (α := TrT.den) xs trZ hin)
    by_cases h1 : a < i
    · rw [List.getElem?_append_left (by simp; omega), List.getElem?_append_left (by simp; omega), List.getElem?_take_of_lt h1] at ha
      obtain ⟨us, l1, l2, l3⟩ := k5 a x ha
      refine ⟨us, l1, l2, fun j u hj => ?_⟩
      have hjl : j < 10 := by have := (List.getElem?_eq_some_iff.1 hj).1; rw [l1] at this; exact this
      rw [g2, if_neg (by omega), g1, if_neg (by omega)]
      exact l3 j u hj
    · by_cases h2 : a < xs.length - 1
      · rw [List.getElem?_append_left (by simp; omega), List.getElem?_append_right (by simp; omega), List.getElem?_drop] at ha
        have hta : (xs.take i).length = i := by rw [List.length_take]; omega
        rw [hta, show i + 1 + (a - i) = a + 1 by omega] at ha
        obtain ⟨us, l1, l2, l3⟩ := k5 (a + 1) x ha
        refine ⟨us, l1, l2, fun j u hj => ?_⟩
        have hjl : j < 10 := by have := (List.getElem?_eq_some_iff.1 hj).1; rw [l1] at this; exact this
        have hv := l3 j u hj
        rw [g2, if_neg (by omega), g1, if_pos (by rw [hnl]; omega), hnews, List.getElem?_drop, show (i + 1) * 10 + (a * 10 + j - (0 + i * 10)) = (a + 1) * 10 + j by omega, hcg _ (by omega)]
        exact hv
      · have hae : a = xs.length - 1 := by omega
        rw [List.getElem?_append_right (by simp; omega)] at ha
        have hta : (xs.take i ++ xs.drop (i + 1)).length = xs.length - 1 := by simp; omega
        rw [hta, hae, Nat.sub_self] at ha
        cases ha
        refine ⟨zt, rfl, zt_rel _, fun j u hj => ?_⟩
        have hjl : j < 10 := (List.getElem?_eq_some_iff.1 hj).1
        rw [g2, if_pos (by rw [hztl]; omega), show a * 10 + j - (i + (xs.length - (i + 1))) * 10 = j by omega]
        exact hj
  · simp only [VRel]
    exact ⟨_, c, by congr 1; omega, by omega, fun c' h => (by cases h), .inr ⟨b, C, hι, rfl, by omega, by omega⟩⟩
end Go.Proofs.Pen

namespace Go.Proofs.Pen
open Go Go.Proofs
abbrev TI : Ty := (.int .i64)
abbrev TE : Ty := (.er 77 38)
abbrev TF : Ty := (.st (.pair (.int .i64) (.pair (.int .i64) (.er 77 38))))
abbrev TP : Ty := (.st (.pair (.int .i64) (.pair (.int .i64) (.int .i64))))
abbrev TLitD : Ty := (.st (.pair (.int .i64) (.st (.pair (.int .i64) (.pair (.int .i64) (.int .i64))))))
abbrev TMatD : Ty := (.st (.pair (.st (.pair (.int .i64) (.pair (.int .i64) (.int .i64)))) (.pair (.st (.pair (.int .i64) (.pair (.int .i64) (.int .i64)))) (.int .i64))))
abbrev TTriD : Ty := (.st (.pair (.st (.pair (.int .i64) (.pair (.int .i64) (.int .i64)))) (.pair (.st (.pair (.int .i64) (.pair (.int .i64) (.int .i64)))) (.pair (.st (.pair (.int .i64) (.pair (.int .i64) (.int .i64)))) (.int .i64)))))
abbrev TCam : Ty := (.st (.pair (.st (.pair (.int .i64) (.pair (.int .i64) (.int .i64)))) (.pair (.st (.pair (.int .i64) (.pair (.int .i64) (.int .i64)))) (.pair (.st (.pair (.int .i64) (.pair (.int .i64) (.int .i64)))) (.pair (.int .i64) (.pair (.int .i64) (.int .i64)))))))
abbrev TScn : Ty := (.st (.pair (.sl (.st (.pair (.st (.pair (.int .i64) (.pair (.int .i64) (.int .i64)))) (.pair (.st (.pair (.int .i64) (.pair (.int .i64) (.int .i64)))) (.int .i64))))) (.pair (.sl (.st (.pair (.st (.pair (.int .i64) (.pair (.int .i64) (.int .i64)))) (.pair (.st (.pair (.int .i64) (.pair (.int .i64) (.int .i64)))) (.pair (.st (.pair (.int .i64) (.pair (.int .i64) (.int .i64)))) (.int .i64)))))) (.pair (.sl (.st (.pair (.int .i64) (.st (.pair (.int .i64) (.pair (.int .i64) (.int .i64))))))) (.pair (.int .i64) (.pair (.sl (.st (.pair (.int .i64) (.pair (.int .i64) (.int .i64))))) (.pair (.st (.pair (.st (.pair (.int .i64) (.pair (.int .i64) (.int .i64)))) (.pair (.st (.pair (.int .i64) (.pair (.int .i64) (.int .i64)))) (.pair (.st (.pair (.int .i64) (.pair (.int .i64) (.int .i64)))) (.pair (.int .i64) (.pair (.int .i64) (.int .i64))))))) (.pair (.int .i64) (.int .i64)))))))))
theorem mixed : Tryd.prog.follows .mixedOrders = true := by kernel_rfl
theorem xTO : ExOK Tryd.prog 59 (typeOfAV 116 Tryd.prog.globals.size) := typeOf_ok (by intros; kernel_rfl) (by intros; kernel_rfl)
theorem xCM : ExOK Tryd.prog 102 (comparableAV Tryd.prog.globals.size [38]) := comparable_ok (by intro t h w; rw [show t = 38 by simpa using h]; kernel_rfl)
noncomputable def Xs : Nat → List AV → T AV := ext (ext (ext noQ 59 (typeOfAV 116 Tryd.prog.globals.size)) 102 (comparableAV Tryd.prog.globals.size [38])) 13 codeAV
theorem Xok : QuietOK Tryd.prog Xs := quiet_ext (quiet_extE (quiet_extE (quiet_none _) xTO) xCM) code_ok
noncomputable def tb : DTab := (tbExt (tbExt (tbExt (tbExt (tbExt tbNone 43 deleteD) 49 (cloneD TMatD 56)) 50 (cloneD TTriD 80)) 51 (cloneD TLitD 32)) 30 (cloneD TP 24))
theorem tbOk : TBOK Tryd.prog tb := (tb_ext (tb_ext (tb_ext (tb_ext (tb_ext (tb_none _) delete_deep) (clone_deep (F := { quiet := noQ, deep := noDeep }) (D := D0) (S := noS) mixed (quiet_none _) (deep_none _) Tryd.func49 (by kernel_rfl) (fun c _ => sok_none _ 0 c) (by kernel_rfl) (t := TMatD) (bt := 56) (by kernel_rfl) (fun v => by kernel_rfl) (fun xs => by kernel_rfl))) (clone_deep (F := { quiet := noQ, deep := noDeep }) (D := D0) (S := noS) mixed (quiet_none _) (deep_none _) Tryd.func50 (by kernel_rfl) (fun c _ => sok_none _ 0 c) (by kernel_rfl) (t := TTriD) (bt := 80) (by kernel_rfl) (fun v => by kernel_rfl) (fun xs => by kernel_rfl))) (clone_deep (F := { quiet := noQ, deep := noDeep }) (D := D0) (S := noS) mixed (quiet_none _) (deep_none _) Tryd.func51 (by kernel_rfl) (fun c _ => sok_none _ 0 c) (by kernel_rfl) (t := TLitD) (bt := 32) (by kernel_rfl) (fun v => by kernel_rfl) (fun xs => by kernel_rfl))) (clone_deep (F := { quiet := noQ, deep := noDeep }) (D := D0) (S := noS) mixed (quiet_none _) (deep_none _) Tryd.func30 (by kernel_rfl) (fun c _ => sok_none _ 0 c) (by kernel_rfl) (t := TP) (bt := 24) (by kernel_rfl) (fun v => by kernel_rfl) (fun xs => by kernel_rfl)))
end Go.Proofs.Pen

namespace Go.Proofs.Pen
open Go Go.Proofs
noncomputable def fault_New.t (x : Int × Int) : T (ErrD) := T.ite (x.1 == (0 : Int)) (T.ret ErrD.nil) (T.ret (ErrD.fault x.1 x.2 ErrD.nil))
noncomputable def fault_New (x : Int × Int) : Option (ErrD) := (fault_New.t x).run
noncomputable def fault_New.q : List AV → T AV := entry [TI, TI] (outR [TE]) fun x => .opt (fault_New x) .ret
theorem fault_New.ok : FnOK Tryd.prog 27 fault_New.q :=
  entry_call (ps := [TI, TI]) (rs := [TE]) (F := ({ quiet := Xs, deep := noDeep } : Fns)) (D := D0) (S := tabS []) (t := fault_New.t) mixed Xok (deep_none _) Tryd.func27 (by kernel_rfl) (sok_fn trivial) (by kernel_rfl) (fun x => by kernel_rfl)
end Go.Proofs.Pen

namespace Go.Proofs.Pen
open Go Go.Proofs
noncomputable def fault_Wrap.t (x : ErrD × Int × Int) : T (ErrD) := T.ite (ErrD.isNil x.1 || x.2.1 == (0 : Int)) (T.ret x.1) (T.ret (ErrD.fault x.2.1 x.2.2 x.1))
noncomputable def fault_Wrap (x : ErrD × Int × Int) : Option (ErrD) := (fault_Wrap.t x).run
noncomputable def fault_Wrap.q : List AV → T AV := entry [TE, TI, TI] (outR [TE]) fun x => .opt (fault_Wrap x) .ret
theorem fault_Wrap.ok : FnOK Tryd.prog 71 fault_Wrap.q :=
  entry_call (ps := [TE, TI, TI]) (rs := [TE]) (F := ({ quiet := Xs, deep := noDeep } : Fns)) (D := D0) (S := tabS []) (t := fault_Wrap.t) mixed Xok (deep_none _) Tryd.func71 (by kernel_rfl) (sok_fn trivial) (by kernel_rfl) (fun x => by kernel_rfl)
end Go.Proofs.Pen

namespace Go.Proofs.Pen
open Go Go.Proofs
noncomputable def scene_bound.t (x : Int × Int) : T (ErrD) := T.opt (fault_New x) fun y => T.opt (fault_Wrap (y, (10 : Int), (0 : Int))) fun y => T.ret y
noncomputable def scene_bound (x : Int × Int) : Option (ErrD) := (scene_bound.t x).run
noncomputable def scene_bound.q : List AV → T AV := entry [TI, TI] (outR [TE]) fun x => .opt (scene_bound x) .ret
theorem scene_bound.ok : FnOK Tryd.prog 61 scene_bound.q :=
  entry_call (ps := [TI, TI]) (rs := [TE]) (F := ({ quiet := (ext (ext Xs 27 fault_New.q) 71 fault_Wrap.q), deep := noDeep } : Fns)) (D := D0) (S := tabS []) (t := scene_bound.t) mixed (quiet_ext (quiet_ext Xok fault_New.ok) fault_Wrap.ok) (deep_none _) Tryd.func61 (by kernel_rfl) (sok_fn trivial) (by kernel_rfl) (fun x => by kernel_rfl)
end Go.Proofs.Pen

namespace Go.Proofs.Pen
open Go Go.Proofs
noncomputable def scene_many.t (x : ((List ((Int × Int × Int) × (Int × Int × Int) × Int)) × (List ((Int × Int × Int) × (Int × Int × Int) × (Int × Int × Int) × Int)) × (List (Int × Int × Int × Int)) × Int × (List (Int × Int × Int)) × ((Int × Int × Int) × (Int × Int × Int) × (Int × Int × Int) × Int × Int × Int) × Int × Int)) : T (ErrD) := T.ite (decide ((↑(List.length x.1) : Int) > (32 : Int)) || decide ((↑(List.length x.2.1) : Int) > (512 : Int)) || decide ((↑(List.length x.2.2.1) : Int) > (512 : Int)) || decide (x.2.2.2.1 > (16 : Int))) (T.opt (scene_bound ((4 : Int), (0 : Int))) fun y => T.ret y) (T.ret ErrD.nil)
noncomputable def scene_many (x : ((List ((Int × Int × Int) × (Int × Int × Int) × Int)) × (List ((Int × Int × Int) × (Int × Int × Int) × (Int × Int × Int) × Int)) × (List (Int × Int × Int × Int)) × Int × (List (Int × Int × Int)) × ((Int × Int × Int) × (Int × Int × Int) × (Int × Int × Int) × Int × Int × Int) × Int × Int)) : Option (ErrD) := (scene_many.t x).run
noncomputable def scene_many.q : List AV → T AV := entry [TScn] (outR [TE]) fun x => .opt (scene_many x) .ret
theorem scene_many.ok : FnOK Tryd.prog 44 scene_many.q :=
  entry_call (ps := [TScn]) (rs := [TE]) (F := ({ quiet := (ext Xs 61 scene_bound.q), deep := noDeep } : Fns)) (D := D0) (S := tabS []) (t := scene_many.t) mixed (quiet_ext Xok scene_bound.ok) (deep_none _) Tryd.func44 (by kernel_rfl) (sok_fn trivial) (by kernel_rfl) (fun x => by kernel_rfl)
end Go.Proofs.Pen

namespace Go.Proofs.Pen
open Go Go.Proofs
def slices_Min.L0 : List (Nat × Lay) := [(0, .val (.sl TI)), (3, .val TI), (4, .val TI)]
noncomputable def slices_Min.t0 (x : (List (Int)) × Int × Int × Unit) : T (Ex × (List (Int)) × Int × Int × Unit) := T.ite (decide (x.2.2.1 < (↑(List.length x.1) : Int))) (T.opt (lget x.1 x.2.2.1) fun y => T.ret (Ex.normal, x.1, if y < x.2.1 then y else x.2.1, W (x.2.2.1 + (1 : Int)), ())) (T.ret (Ex.exit (0 : Nat), x.1, x.2.1, x.2.2.1, ()))
noncomputable def slices_Min.l0 (x : (List (Int)) × Int × Int × Unit) : Option (Ex × (List (Int)) × Int × Int × Unit) := (iterT slices_Min.t0 rounds x).run
theorem slices_Min.k0 : bodies 0 (lp Tryd.f73 []) = [.loop (loopIn 0 (lp Tryd.f73 []))] ∧ WP Tryd.prog 0 (.block 0 (.loop (loopIn 0 (lp Tryd.f73 [])))) (loopS slices_Min.L0 25 0 [.exit 0] slices_Min.l0) :=
  loop_tree (L := slices_Min.L0) (F := ({ quiet := Xs, deep := noDeep } : Fns)) (D := D0) (tab := []) (t := slices_Min.t0) mixed Xok (deep_none _) (fun _ => rfl) (by kernel_rfl) (by kernel_rfl) trivial (fun x => by kernel_rfl)
noncomputable def slices_Min.t (x : (List (Int))) : T (Int) := T.ite (decide ((↑(List.length x) : Int) < (1 : Int))) T.fail (T.opt (lget x (0 : Int)) fun y => T.opt (slices_Min.l0 (x, y, (1 : Int), ())) fun y => T.ite (exEq y.1 (Ex.exit (0 : Nat))) (T.ret y.2.2.1) T.fail)
noncomputable def slices_Min (x : (List (Int))) : Option (Int) := (slices_Min.t x).run
noncomputable def slices_Min.q : List AV → T AV := entry [(.sl TI)] (outR [TI]) fun x => .opt (slices_Min x) .ret
theorem slices_Min.ok : FnOK Tryd.prog 73 slices_Min.q :=
  entry_call (ps := [(.sl TI)]) (rs := [TI]) (F := ({ quiet := Xs, deep := noDeep } : Fns)) (D := D0) (S := tabS [(0, loopS slices_Min.L0 25 0 [.exit 0] slices_Min.l0)]) (t := slices_Min.t) mixed Xok (deep_none _) Tryd.func73 (by kernel_rfl) (sok_fn ⟨slices_Min.k0, trivial⟩) (by kernel_rfl) (fun x => by kernel_rfl)
end Go.Proofs.Pen

namespace Go.Proofs.Pen
open Go Go.Proofs
def slices_Max.L0 : List (Nat × Lay) := [(0, .val (.sl TI)), (3, .val TI), (4, .val TI)]
noncomputable def slices_Max.t0 (x : (List (Int)) × Int × Int × Unit) : T (Ex × (List (Int)) × Int × Int × Unit) := T.ite (decide (x.2.2.1 < (↑(List.length x.1) : Int))) (T.opt (lget x.1 x.2.2.1) fun y => T.ret (Ex.normal, x.1, if y > x.2.1 then y else x.2.1, W (x.2.2.1 + (1 : Int)), ())) (T.ret (Ex.exit (0 : Nat), x.1, x.2.1, x.2.2.1, ()))
noncomputable def slices_Max.l0 (x : (List (Int)) × Int × Int × Unit) : Option (Ex × (List (Int)) × Int × Int × Unit) := (iterT slices_Max.t0 rounds x).run
theorem slices_Max.k0 : bodies 0 (lp Tryd.f74 []) = [.loop (loopIn 0 (lp Tryd.f74 []))] ∧ WP Tryd.prog 0 (.block 0 (.loop (loopIn 0 (lp Tryd.f74 [])))) (loopS slices_Max.L0 25 0 [.exit 0] slices_Max.l0) :=
  loop_tree (L := slices_Max.L0) (F := ({ quiet := Xs, deep := noDeep } : Fns)) (D := D0) (tab := []) (t := slices_Max.t0) mixed Xok (deep_none _) (fun _ => rfl) (by kernel_rfl) (by kernel_rfl) trivial (fun x => by kernel_rfl)
noncomputable def slices_Max.t (x : (List (Int))) : T (Int) := T.ite (decide ((↑(List.length x) : Int) < (1 : Int))) T.fail (T.opt (lget x (0 : Int)) fun y => T.opt (slices_Max.l0 (x, y, (1 : Int), ())) fun y => T.ite (exEq y.1 (Ex.exit (0 : Nat))) (T.ret y.2.2.1) T.fail)
noncomputable def slices_Max (x : (List (Int))) : Option (Int) := (slices_Max.t x).run
noncomputable def slices_Max.q : List AV → T AV := entry [(.sl TI)] (outR [TI]) fun x => .opt (slices_Max x) .ret
theorem slices_Max.ok : FnOK Tryd.prog 74 slices_Max.q :=
  entry_call (ps := [(.sl TI)]) (rs := [TI]) (F := ({ quiet := Xs, deep := noDeep } : Fns)) (D := D0) (S := tabS [(0, loopS slices_Max.L0 25 0 [.exit 0] slices_Max.l0)]) (t := slices_Max.t) mixed Xok (deep_none _) Tryd.func74 (by kernel_rfl) (sok_fn ⟨slices_Max.k0, trivial⟩) (by kernel_rfl) (fun x => by kernel_rfl)
end Go.Proofs.Pen

namespace Go.Proofs.Pen
open Go Go.Proofs
noncomputable def scene_within_1.t (x : (List (Int)) × Int × Int) : T (Bool) := T.opt (slices_Min x.1) fun y => T.ite (decide (y ≥ x.2.1)) (T.opt (slices_Max x.1) fun y => T.ret (decide (y ≤ x.2.2))) (T.ret false)
noncomputable def scene_within_1 (x : (List (Int)) × Int × Int) : Option (Bool) := (scene_within_1.t x).run
noncomputable def scene_within_1.q : List AV → T AV := entry [(.sl TI), (.ptr TI), (.ptr TI)] (outR [.bool]) fun x => .opt (scene_within_1 x) .ret
theorem scene_within_1.ok : FnOK Tryd.prog 72 scene_within_1.q :=
  entry_call (ps := [(.sl TI), (.ptr TI), (.ptr TI)]) (rs := [.bool]) (F := ({ quiet := (ext (ext Xs 73 slices_Min.q) 74 slices_Max.q), deep := noDeep } : Fns)) (D := D0) (S := tabS []) (t := scene_within_1.t) mixed (quiet_ext (quiet_ext Xok slices_Min.ok) slices_Max.ok) (deep_none _) Tryd.func72 (by kernel_rfl) (sok_fn trivial) (by kernel_rfl) (fun x => by kernel_rfl)
end Go.Proofs.Pen

namespace Go.Proofs.Pen
open Go Go.Proofs
noncomputable def scene_within.t (x : Int × Int) : T ((Int × Int)) := T.ret x
noncomputable def scene_within.q : List AV → T AV := entry [TI, TI] (outR [(.clo 72 (.pair (.ptr TI) (.ptr TI)))]) scene_within.t
theorem scene_within.ok : FnOK Tryd.prog 62 scene_within.q :=
  entry_in (ps := [TI, TI]) (rs := [(.clo 72 (.pair (.ptr TI) (.ptr TI)))]) (F := ({ quiet := (ext Xs 72 scene_within_1.q), deep := noDeep } : Fns)) (D := D0) (S := tabS []) (t := scene_within.t) mixed (quiet_ext Xok scene_within_1.ok) (deep_none _) Tryd.func62 (by kernel_rfl) (sok_fn trivial) (by kernel_rfl) (fun x => by kernel_rfl)
end Go.Proofs.Pen

namespace Go.Proofs.Pen
open Go Go.Proofs
noncomputable def scene_point.t (x : (Int × Int × Int)) : T ((List (Int))) := T.ret (List.take (3 : Nat) [x.1, x.2.1, x.2.2])
noncomputable def scene_point.q : List AV → T AV := entry [TP] (outR [(.sl TI)]) scene_point.t
theorem scene_point.ok : FnOK Tryd.prog 63 scene_point.q :=
  entry_in (ps := [TP]) (rs := [(.sl TI)]) (F := ({ quiet := Xs, deep := noDeep } : Fns)) (D := D0) (S := tabS []) (t := scene_point.t) mixed Xok (deep_none _) Tryd.func63 (by kernel_rfl) (sok_fn trivial) (by kernel_rfl) (fun x => by kernel_rfl)
end Go.Proofs.Pen

namespace Go.Proofs.Pen
open Go Go.Proofs
noncomputable def scene_broken.t (x : Int × Int) : T (ErrD) := T.opt (fault_New x) fun y => T.opt (fault_Wrap (y, (11 : Int), (0 : Int))) fun y => T.ret y
noncomputable def scene_broken (x : Int × Int) : Option (ErrD) := (scene_broken.t x).run
noncomputable def scene_broken.q : List AV → T AV := entry [TI, TI] (outR [TE]) fun x => .opt (scene_broken x) .ret
theorem scene_broken.ok : FnOK Tryd.prog 64 scene_broken.q :=
  entry_call (ps := [TI, TI]) (rs := [TE]) (F := ({ quiet := (ext (ext Xs 27 fault_New.q) 71 fault_Wrap.q), deep := noDeep } : Fns)) (D := D0) (S := tabS []) (t := scene_broken.t) mixed (quiet_ext (quiet_ext Xok fault_New.ok) fault_Wrap.ok) (deep_none _) Tryd.func64 (by kernel_rfl) (sok_fn trivial) (by kernel_rfl) (fun x => by kernel_rfl)
end Go.Proofs.Pen

namespace Go.Proofs.Pen
open Go Go.Proofs
def scene_mats.L2 : List (Nat × Lay) := [(2, .val TE), (3, .val (.clo 72 (.pair (.ptr TI) (.ptr TI)))), (4, .val TI), (5, .box TMatD), (10, .val (.sl TMatD)), (11, .val TI), (12, .val TI), (44, .val (.sl TI)), (45, .val TI), (46, .val TI)]
noncomputable def scene_mats.t2 (x : ErrD × (Int × Int) × Int × ((Int × Int × Int) × (Int × Int × Int) × Int) × (List ((Int × Int × Int) × (Int × Int × Int) × Int)) × Int × Int × (List (Int)) × Int × Int × Unit) : T (Ex × ErrD × (Int × Int) × Int × ((Int × Int × Int) × (Int × Int × Int) × Int) × (List ((Int × Int × Int) × (Int × Int × Int) × Int)) × Int × Int × (List (Int)) × Int × Int × Unit) := T.ite (decide (x.2.2.2.2.2.2.2.2.2.1 < x.2.2.2.2.2.2.2.2.1)) (T.opt (lget x.2.2.2.2.2.2.2.1 x.2.2.2.2.2.2.2.2.2.1) fun y => T.ite (decide (y ≥ (1024 : Int))) (T.opt (scene_broken ((4 : Int), W (x.2.2.1 + (1 : Int)))) fun y => T.ret (Ex.ret, y, x.2.1, x.2.2.1, x.2.2.2.1, x.2.2.2.2.1, x.2.2.2.2.2.1, x.2.2.2.2.2.2.1, x.2.2.2.2.2.2.2.1, x.2.2.2.2.2.2.2.2.1, x.2.2.2.2.2.2.2.2.2.1, ())) (T.opt (lget (List.take (3 : Nat) [x.2.2.2.1.2.1.1, x.2.2.2.1.2.1.2.1, x.2.2.2.1.2.1.2.2]) x.2.2.2.2.2.2.2.2.2.1) fun y_1 => T.ite (decide (W (y + if (1024 : Int) < y_1 then (1024 : Int) else y_1) ≥ (1024 : Int))) (T.opt (scene_broken ((4 : Int), W (x.2.2.1 + (1 : Int)))) fun y => T.ret (Ex.ret, y, x.2.1, x.2.2.1, x.2.2.2.1, x.2.2.2.2.1, x.2.2.2.2.2.1, x.2.2.2.2.2.2.1, x.2.2.2.2.2.2.2.1, x.2.2.2.2.2.2.2.2.1, x.2.2.2.2.2.2.2.2.2.1, ())) (T.ret (Ex.normal, x.1, x.2.1, x.2.2.1, x.2.2.2.1, x.2.2.2.2.1, x.2.2.2.2.2.1, x.2.2.2.2.2.2.1, x.2.2.2.2.2.2.2.1, x.2.2.2.2.2.2.2.2.1, W (x.2.2.2.2.2.2.2.2.2.1 + (1 : Int)), ())))) (T.ret (Ex.exit (2 : Nat), x.1, x.2.1, x.2.2.1, x.2.2.2.1, x.2.2.2.2.1, x.2.2.2.2.2.1, x.2.2.2.2.2.2.1, x.2.2.2.2.2.2.2.1, x.2.2.2.2.2.2.2.2.1, x.2.2.2.2.2.2.2.2.2.1, ()))
noncomputable def scene_mats.l2 (x : ErrD × (Int × Int) × Int × ((Int × Int × Int) × (Int × Int × Int) × Int) × (List ((Int × Int × Int) × (Int × Int × Int) × Int)) × Int × Int × (List (Int)) × Int × Int × Unit) : Option (Ex × ErrD × (Int × Int) × Int × ((Int × Int × Int) × (Int × Int × Int) × Int) × (List ((Int × Int × Int) × (Int × Int × Int) × Int)) × Int × Int × (List (Int)) × Int × Int × Unit) := (iterT scene_mats.t2 rounds x).run
theorem scene_mats.k2 : bodies 2 (lp Tryd.f45 [0]) = [.loop (loopIn 2 (lp Tryd.f45 [0]))] ∧ WP Tryd.prog 0 (.block 2 (.loop (loopIn 2 (lp Tryd.f45 [0])))) (loopS scene_mats.L2 70 2 [.exit 2, .ret] scene_mats.l2) :=
  loop_tree (L := scene_mats.L2) (F := ({ quiet := (ext (ext (ext (ext (ext Xs 62 scene_within.q) 63 scene_point.q) 61 scene_bound.q) 64 scene_broken.q) 72 scene_within_1.q), deep := noDeep } : Fns)) (D := D0) (tab := []) (t := scene_mats.t2) mixed (quiet_ext (quiet_ext (quiet_ext (quiet_ext (quiet_ext Xok scene_within.ok) scene_point.ok) scene_bound.ok) scene_broken.ok) scene_within_1.ok) (deep_none _) (fun _ => rfl) (by kernel_rfl) (by kernel_rfl) trivial (fun x => by kernel_rfl)
def scene_mats.L0 : List (Nat × Lay) := [(2, .val TE), (3, .val (.clo 72 (.pair (.ptr TI) (.ptr TI)))), (10, .val (.sl TMatD)), (11, .val TI), (12, .val TI)]
noncomputable def scene_mats.t0 (x : ErrD × (Int × Int) × (List ((Int × Int × Int) × (Int × Int × Int) × Int)) × Int × Int × Unit) : T (Ex × ErrD × (Int × Int) × (List ((Int × Int × Int) × (Int × Int × Int) × Int)) × Int × Int × Unit) := T.ite (decide (x.2.2.2.2.1 < x.2.2.2.1)) (T.opt (lget x.2.2.1 x.2.2.2.2.1) fun y => T.opt (scene_within_1 ([y.2.2], (1 : Int), (1024 : Int))) fun y_1 => T.ite (!y_1) (T.opt (scene_bound ((3 : Int), W (x.2.2.2.2.1 + (1 : Int)))) fun y => T.ret (Ex.ret, y, x.2.1, x.2.2.1, x.2.2.2.1, x.2.2.2.2.1, ())) (T.opt (scene_within_1 (List.take (3 : Nat) [y.1.1, y.1.2.1, y.1.2.2], x.2.1)) fun y_2 => T.ite (!y_2) (T.opt (scene_bound ((3 : Int), W (x.2.2.2.2.1 + (1 : Int)))) fun y => T.ret (Ex.ret, y, x.2.1, x.2.2.1, x.2.2.2.1, x.2.2.2.2.1, ())) (T.opt (scene_within_1 (List.take (3 : Nat) [y.2.1.1, y.2.1.2.1, y.2.1.2.2], x.2.1)) fun y_3 => T.ite (!y_3) (T.opt (scene_bound ((3 : Int), W (x.2.2.2.2.1 + (1 : Int)))) fun y => T.ret (Ex.ret, y, x.2.1, x.2.2.1, x.2.2.2.1, x.2.2.2.2.1, ())) (T.opt (scene_mats.l2 (x.1, x.2.1, x.2.2.2.2.1, y, x.2.2.1, x.2.2.2.1, x.2.2.2.2.1, List.take (3 : Nat) [y.1.1, y.1.2.1, y.1.2.2], (↑(List.take (3 : Nat) [y.1.1, y.1.2.1, y.1.2.2]).length : Int), (0 : Int), ())) fun y => T.ite (exEq y.1 (Ex.exit (2 : Nat))) (T.ret (Ex.normal, y.2.1, y.2.2.1, y.2.2.2.2.2.1, y.2.2.2.2.2.2.1, W (y.2.2.2.2.2.2.2.1 + (1 : Int)), ())) (T.ite (exEq y.1 Ex.ret) (T.ret (Ex.ret, y.2.1, y.2.2.1, y.2.2.2.2.2.1, y.2.2.2.2.2.2.1, y.2.2.2.2.2.2.2.1, ())) T.fail))))) (T.ret (Ex.exit (0 : Nat), x.1, x.2.1, x.2.2.1, x.2.2.2.1, x.2.2.2.2.1, ()))
noncomputable def scene_mats.l0 (x : ErrD × (Int × Int) × (List ((Int × Int × Int) × (Int × Int × Int) × Int)) × Int × Int × Unit) : Option (Ex × ErrD × (Int × Int) × (List ((Int × Int × Int) × (Int × Int × Int) × Int)) × Int × Int × Unit) := (iterT scene_mats.t0 rounds x).run
theorem scene_mats.k0 : bodies 0 (lp Tryd.f45 []) = [.loop (loopIn 0 (lp Tryd.f45 []))] ∧ WP Tryd.prog 0 (.block 0 (.loop (loopIn 0 (lp Tryd.f45 [])))) (loopS scene_mats.L0 70 0 [.exit 0, .ret] scene_mats.l0) :=
  loop_tree (L := scene_mats.L0) (F := ({ quiet := (ext (ext (ext (ext (ext Xs 62 scene_within.q) 63 scene_point.q) 61 scene_bound.q) 64 scene_broken.q) 72 scene_within_1.q), deep := noDeep } : Fns)) (D := D0) (tab := [(2, loopS scene_mats.L2 70 2 [.exit 2, .ret] scene_mats.l2)]) (t := scene_mats.t0) mixed (quiet_ext (quiet_ext (quiet_ext (quiet_ext (quiet_ext Xok scene_within.ok) scene_point.ok) scene_bound.ok) scene_broken.ok) scene_within_1.ok) (deep_none _) (fun _ => rfl) (by kernel_rfl) (by kernel_rfl) ⟨scene_mats.k2, trivial⟩ (fun x => by kernel_rfl)
noncomputable def scene_mats.t (x : ((List ((Int × Int × Int) × (Int × Int × Int) × Int)) × (List ((Int × Int × Int) × (Int × Int × Int) × (Int × Int × Int) × Int)) × (List (Int × Int × Int × Int)) × Int × (List (Int × Int × Int)) × ((Int × Int × Int) × (Int × Int × Int) × (Int × Int × Int) × Int × Int × Int) × Int × Int)) : T (ErrD) := T.opt (scene_mats.l0 (ErrD.nil, ((0 : Int), (9223372036854775807 : Int)), x.1, (↑(List.length x.1) : Int), (0 : Int), ())) fun y => T.ite (exEq y.1 (Ex.exit (0 : Nat))) (T.ret ErrD.nil) (T.ite (exEq y.1 Ex.ret) (T.ret y.2.1) T.fail)
noncomputable def scene_mats (x : ((List ((Int × Int × Int) × (Int × Int × Int) × Int)) × (List ((Int × Int × Int) × (Int × Int × Int) × (Int × Int × Int) × Int)) × (List (Int × Int × Int × Int)) × Int × (List (Int × Int × Int)) × ((Int × Int × Int) × (Int × Int × Int) × (Int × Int × Int) × Int × Int × Int) × Int × Int)) : Option (ErrD) := (scene_mats.t x).run
noncomputable def scene_mats.q : List AV → T AV := entry [TScn] (outR [TE]) fun x => .opt (scene_mats x) .ret
theorem scene_mats.ok : FnOK Tryd.prog 45 scene_mats.q :=
  entry_call (ps := [TScn]) (rs := [TE]) (F := ({ quiet := (ext (ext (ext (ext (ext Xs 62 scene_within.q) 63 scene_point.q) 61 scene_bound.q) 64 scene_broken.q) 72 scene_within_1.q), deep := noDeep } : Fns)) (D := D0) (S := tabS [(0, loopS scene_mats.L0 70 0 [.exit 0, .ret] scene_mats.l0)]) (t := scene_mats.t) mixed (quiet_ext (quiet_ext (quiet_ext (quiet_ext (quiet_ext Xok scene_within.ok) scene_point.ok) scene_bound.ok) scene_broken.ok) scene_within_1.ok) (deep_none _) Tryd.func45 (by kernel_rfl) (sok_fn ⟨scene_mats.k0, trivial⟩) (by kernel_rfl) (fun x => by kernel_rfl)
end Go.Proofs.Pen

namespace Go.Proofs.Pen
open Go Go.Proofs
noncomputable def scene_less.t (x : (Int × Int × Int) × (Int × Int × Int)) : T ((Int × Int × Int)) := T.ret (W (x.1.1 - x.2.1), W (x.1.2.1 - x.2.2.1), W (x.1.2.2 - x.2.2.2))
noncomputable def scene_less.q : List AV → T AV := entry [TP, TP] (outR [TP]) scene_less.t
theorem scene_less.ok : FnOK Tryd.prog 66 scene_less.q :=
  entry_in (ps := [TP, TP]) (rs := [TP]) (F := ({ quiet := Xs, deep := noDeep } : Fns)) (D := D0) (S := tabS []) (t := scene_less.t) mixed Xok (deep_none _) Tryd.func66 (by kernel_rfl) (sok_fn trivial) (by kernel_rfl) (fun x => by kernel_rfl)
end Go.Proofs.Pen

namespace Go.Proofs.Pen
open Go Go.Proofs
noncomputable def scene_flat.t (x : (Int × Int × Int) × (Int × Int × Int)) : T (Bool) := T.ret (W (W (x.1.2.1 * x.2.2.2) - W (x.1.2.2 * x.2.2.1)) == (0 : Int) && (W (W (x.1.2.2 * x.2.1) - W (x.1.1 * x.2.2.2)) == (0 : Int) && W (W (x.1.1 * x.2.2.1) - W (x.1.2.1 * x.2.1)) == (0 : Int)))
noncomputable def scene_flat.q : List AV → T AV := entry [TP, TP] (outR [.bool]) scene_flat.t
theorem scene_flat.ok : FnOK Tryd.prog 65 scene_flat.q :=
  entry_in (ps := [TP, TP]) (rs := [.bool]) (F := ({ quiet := Xs, deep := noDeep } : Fns)) (D := D0) (S := tabS []) (t := scene_flat.t) mixed Xok (deep_none _) Tryd.func65 (by kernel_rfl) (sok_fn trivial) (by kernel_rfl) (fun x => by kernel_rfl)
end Go.Proofs.Pen

namespace Go.Proofs.Pen
open Go Go.Proofs
def scene_tris.L0 : List (Nat × Lay) := [(1, .box TScn), (2, .val TE), (3, .val (.clo 72 (.pair (.ptr TI) (.ptr TI)))), (8, .val (.sl TTriD)), (9, .val TI), (10, .val TI)]
noncomputable def scene_tris.t0 (x : ((List ((Int × Int × Int) × (Int × Int × Int) × Int)) × (List ((Int × Int × Int) × (Int × Int × Int) × (Int × Int × Int) × Int)) × (List (Int × Int × Int × Int)) × Int × (List (Int × Int × Int)) × ((Int × Int × Int) × (Int × Int × Int) × (Int × Int × Int) × Int × Int × Int) × Int × Int) × ErrD × (Int × Int) × (List ((Int × Int × Int) × (Int × Int × Int) × (Int × Int × Int) × Int)) × Int × Int × Unit) : T (Ex × ((List ((Int × Int × Int) × (Int × Int × Int) × Int)) × (List ((Int × Int × Int) × (Int × Int × Int) × (Int × Int × Int) × Int)) × (List (Int × Int × Int × Int)) × Int × (List (Int × Int × Int)) × ((Int × Int × Int) × (Int × Int × Int) × (Int × Int × Int) × Int × Int × Int) × Int × Int) × ErrD × (Int × Int) × (List ((Int × Int × Int) × (Int × Int × Int) × (Int × Int × Int) × Int)) × Int × Int × Unit) := T.ite (decide (x.2.2.2.2.2.1 < x.2.2.2.2.1)) (T.opt (lget x.2.2.2.1 x.2.2.2.2.2.1) fun y => T.ite (decide (y.2.2.2 < (0 : Int)) || decide (y.2.2.2 ≥ (↑(List.length x.1.1) : Int))) (T.opt (scene_broken ((2 : Int), W (x.2.2.2.2.2.1 + (1 : Int)))) fun y => T.ret (Ex.ret, x.1, y, x.2.2.1, x.2.2.2.1, x.2.2.2.2.1, x.2.2.2.2.2.1, ())) (T.opt (scene_within_1 (List.take (3 : Nat) [y.1.1, y.1.2.1, y.1.2.2], x.2.2.1)) fun y_1 => T.ite (!y_1) (T.opt (scene_bound ((3 : Int), W (x.2.2.2.2.2.1 + (1 : Int)))) fun y => T.ret (Ex.ret, x.1, y, x.2.2.1, x.2.2.2.1, x.2.2.2.2.1, x.2.2.2.2.2.1, ())) (T.opt (scene_within_1 (List.take (3 : Nat) [y.2.1.1, y.2.1.2.1, y.2.1.2.2], x.2.2.1)) fun y_2 => T.ite (!y_2) (T.opt (scene_bound ((3 : Int), W (x.2.2.2.2.2.1 + (1 : Int)))) fun y => T.ret (Ex.ret, x.1, y, x.2.2.1, x.2.2.2.1, x.2.2.2.2.1, x.2.2.2.2.2.1, ())) (T.opt (scene_within_1 (List.take (3 : Nat) [y.2.2.1.1, y.2.2.1.2.1, y.2.2.1.2.2], x.2.2.1)) fun y_3 => T.ite (!y_3) (T.opt (scene_bound ((3 : Int), W (x.2.2.2.2.2.1 + (1 : Int)))) fun y => T.ret (Ex.ret, x.1, y, x.2.2.1, x.2.2.2.1, x.2.2.2.2.1, x.2.2.2.2.2.1, ())) (T.ite (W (W (W (y.2.1.2.1 - y.1.2.1) * W (y.2.2.1.2.2 - y.1.2.2)) - W (W (y.2.1.2.2 - y.1.2.2) * W (y.2.2.1.2.1 - y.1.2.1))) == (0 : Int) && (W (W (W (y.2.1.2.2 - y.1.2.2) * W (y.2.2.1.1 - y.1.1)) - W (W (y.2.1.1 - y.1.1) * W (y.2.2.1.2.2 - y.1.2.2))) == (0 : Int) && W (W (W (y.2.1.1 - y.1.1) * W (y.2.2.1.2.1 - y.1.2.1)) - W (W (y.2.1.2.1 - y.1.2.1) * W (y.2.2.1.1 - y.1.1))) == (0 : Int))) (T.opt (scene_broken ((13 : Int), W (x.2.2.2.2.2.1 + (1 : Int)))) fun y => T.ret (Ex.ret, x.1, y, x.2.2.1, x.2.2.2.1, x.2.2.2.2.1, x.2.2.2.2.2.1, ())) (T.ret (Ex.normal, x.1, x.2.1, x.2.2.1, x.2.2.2.1, x.2.2.2.2.1, W (x.2.2.2.2.2.1 + (1 : Int)), ()))))))) (T.ret (Ex.exit (0 : Nat), x.1, x.2.1, x.2.2.1, x.2.2.2.1, x.2.2.2.2.1, x.2.2.2.2.2.1, ()))
noncomputable def scene_tris.l0 (x : ((List ((Int × Int × Int) × (Int × Int × Int) × Int)) × (List ((Int × Int × Int) × (Int × Int × Int) × (Int × Int × Int) × Int)) × (List (Int × Int × Int × Int)) × Int × (List (Int × Int × Int)) × ((Int × Int × Int) × (Int × Int × Int) × (Int × Int × Int) × Int × Int × Int) × Int × Int) × ErrD × (Int × Int) × (List ((Int × Int × Int) × (Int × Int × Int) × (Int × Int × Int) × Int)) × Int × Int × Unit) : Option (Ex × ((List ((Int × Int × Int) × (Int × Int × Int) × Int)) × (List ((Int × Int × Int) × (Int × Int × Int) × (Int × Int × Int) × Int)) × (List (Int × Int × Int × Int)) × Int × (List (Int × Int × Int)) × ((Int × Int × Int) × (Int × Int × Int) × (Int × Int × Int) × Int × Int × Int) × Int × Int) × ErrD × (Int × Int) × (List ((Int × Int × Int) × (Int × Int × Int) × (Int × Int × Int) × Int)) × Int × Int × Unit) := (iterT scene_tris.t0 rounds x).run
theorem scene_tris.k0 : bodies 0 (lp Tryd.f46 []) = [.loop (loopIn 0 (lp Tryd.f46 []))] ∧ WP Tryd.prog 0 (.block 0 (.loop (loopIn 0 (lp Tryd.f46 [])))) (loopS scene_tris.L0 72 0 [.exit 0, .ret] scene_tris.l0) :=
  loop_tree (L := scene_tris.L0) (F := ({ quiet := (ext (ext (ext (ext (ext (ext (ext Xs 62 scene_within.q) 64 scene_broken.q) 63 scene_point.q) 61 scene_bound.q) 66 scene_less.q) 65 scene_flat.q) 72 scene_within_1.q), deep := noDeep } : Fns)) (D := D0) (tab := []) (t := scene_tris.t0) mixed (quiet_ext (quiet_ext (quiet_ext (quiet_ext (quiet_ext (quiet_ext (quiet_ext Xok scene_within.ok) scene_broken.ok) scene_point.ok) scene_bound.ok) scene_less.ok) scene_flat.ok) scene_within_1.ok) (deep_none _) (fun _ => rfl) (by kernel_rfl) (by kernel_rfl) trivial (fun x => by kernel_rfl)
noncomputable def scene_tris.t (x : ((List ((Int × Int × Int) × (Int × Int × Int) × Int)) × (List ((Int × Int × Int) × (Int × Int × Int) × (Int × Int × Int) × Int)) × (List (Int × Int × Int × Int)) × Int × (List (Int × Int × Int)) × ((Int × Int × Int) × (Int × Int × Int) × (Int × Int × Int) × Int × Int × Int) × Int × Int)) : T (ErrD) := T.opt (scene_tris.l0 (x, ErrD.nil, ((-1048576 : Int), (1048576 : Int)), x.2.1, (↑(List.length x.2.1) : Int), (0 : Int), ())) fun y => T.ite (exEq y.1 (Ex.exit (0 : Nat))) (T.ret ErrD.nil) (T.ite (exEq y.1 Ex.ret) (T.ret y.2.2.1) T.fail)
noncomputable def scene_tris (x : ((List ((Int × Int × Int) × (Int × Int × Int) × Int)) × (List ((Int × Int × Int) × (Int × Int × Int) × (Int × Int × Int) × Int)) × (List (Int × Int × Int × Int)) × Int × (List (Int × Int × Int)) × ((Int × Int × Int) × (Int × Int × Int) × (Int × Int × Int) × Int × Int × Int) × Int × Int)) : Option (ErrD) := (scene_tris.t x).run
noncomputable def scene_tris.q : List AV → T AV := entry [TScn] (outR [TE]) fun x => .opt (scene_tris x) .ret
theorem scene_tris.ok : FnOK Tryd.prog 46 scene_tris.q :=
  entry_call (ps := [TScn]) (rs := [TE]) (F := ({ quiet := (ext (ext (ext (ext (ext (ext (ext Xs 62 scene_within.q) 64 scene_broken.q) 63 scene_point.q) 61 scene_bound.q) 66 scene_less.q) 65 scene_flat.q) 72 scene_within_1.q), deep := noDeep } : Fns)) (D := D0) (S := tabS [(0, loopS scene_tris.L0 72 0 [.exit 0, .ret] scene_tris.l0)]) (t := scene_tris.t) mixed (quiet_ext (quiet_ext (quiet_ext (quiet_ext (quiet_ext (quiet_ext (quiet_ext Xok scene_within.ok) scene_broken.ok) scene_point.ok) scene_bound.ok) scene_less.ok) scene_flat.ok) scene_within_1.ok) (deep_none _) Tryd.func46 (by kernel_rfl) (sok_fn ⟨scene_tris.k0, trivial⟩) (by kernel_rfl) (fun x => by kernel_rfl)
end Go.Proofs.Pen

namespace Go.Proofs.Pen
open Go Go.Proofs
noncomputable def scene_lights_1.t (x : (Int × Int × Int × Int) × (Int × Int × Int × Int)) : T (Bool) := T.ret (x.2.1 == x.1.1)
noncomputable def scene_lights_1.q : List AV → T AV := entry [TLitD, (.ptr TLitD)] (outR [.bool]) scene_lights_1.t
theorem scene_lights_1.ok : FnOK Tryd.prog 68 scene_lights_1.q :=
  entry_in (ps := [TLitD, (.ptr TLitD)]) (rs := [.bool]) (F := ({ quiet := Xs, deep := noDeep } : Fns)) (D := D0) (S := tabS []) (t := scene_lights_1.t) mixed Xok (deep_none _) Tryd.func68 (by kernel_rfl) (sok_fn trivial) (by kernel_rfl) (fun x => by kernel_rfl)
end Go.Proofs.Pen

namespace Go.Proofs.Pen
open Go Go.Proofs
def IdxL.L0 : List (Nat × Lay) := [(0, .val (.sl TLitD)), (1, .val (.clo 68 (.ptr TLitD))), (4, .val TI), (7, .val TI), (8, .val TI)]
noncomputable def IdxL.t0 (x : (List (Int × Int × Int × Int)) × (Int × Int × Int × Int) × Int × Int × Int × Unit) : T (Ex × (List (Int × Int × Int × Int)) × (Int × Int × Int × Int) × Int × Int × Int × Unit) := T.ite (decide (x.2.2.2.2.1 < x.2.2.2.1)) (T.opt (lget x.1 x.2.2.2.2.1) fun y => T.ite (x.2.1.1 == y.1) (T.ret (Ex.ret, x.1, x.2.1, x.2.2.2.2.1, x.2.2.2.1, x.2.2.2.2.1, ())) (T.ret (Ex.normal, x.1, x.2.1, x.2.2.1, x.2.2.2.1, W (x.2.2.2.2.1 + (1 : Int)), ()))) (T.ret (Ex.exit (0 : Nat), x.1, x.2.1, x.2.2.1, x.2.2.2.1, x.2.2.2.2.1, ()))
noncomputable def IdxL.l0 (x : (List (Int × Int × Int × Int)) × (Int × Int × Int × Int) × Int × Int × Int × Unit) : Option (Ex × (List (Int × Int × Int × Int)) × (Int × Int × Int × Int) × Int × Int × Int × Unit) := (iterT IdxL.t0 rounds x).run
theorem IdxL.k0 : bodies 0 (lp Tryd.f75 []) = [.loop (loopIn 0 (lp Tryd.f75 []))] ∧ WP Tryd.prog 0 (.block 0 (.loop (loopIn 0 (lp Tryd.f75 [])))) (loopS IdxL.L0 19 0 [.exit 0, .ret] IdxL.l0) :=
  loop_tree (L := IdxL.L0) (F := ({ quiet := (ext Xs 68 scene_lights_1.q), deep := noDeep } : Fns)) (D := D0) (tab := []) (t := IdxL.t0) mixed (quiet_ext Xok scene_lights_1.ok) (deep_none _) (fun _ => rfl) (by kernel_rfl) (by kernel_rfl) trivial (fun x => by kernel_rfl)
noncomputable def IdxL.t (x : (List (Int × Int × Int × Int)) × (Int × Int × Int × Int)) : T (Int) := T.opt (IdxL.l0 (x.1, x.2, (0 : Int), (↑(List.length x.1) : Int), (0 : Int), ())) fun y => T.ite (exEq y.1 (Ex.exit (0 : Nat))) (T.ret (-1 : Int)) (T.ite (exEq y.1 Ex.ret) (T.ret y.2.2.2.1) T.fail)
noncomputable def IdxL (x : (List (Int × Int × Int × Int)) × (Int × Int × Int × Int)) : Option (Int) := (IdxL.t x).run
noncomputable def IdxL.q : List AV → T AV := entry [(.sl TLitD), (.clo 68 (.ptr TLitD))] (outR [TI]) fun x => .opt (IdxL x) .ret
theorem IdxL.ok : FnOK Tryd.prog 75 IdxL.q :=
  entry_call (ps := [(.sl TLitD), (.clo 68 (.ptr TLitD))]) (rs := [TI]) (F := ({ quiet := (ext Xs 68 scene_lights_1.q), deep := noDeep } : Fns)) (D := D0) (S := tabS [(0, loopS IdxL.L0 19 0 [.exit 0, .ret] IdxL.l0)]) (t := IdxL.t) mixed (quiet_ext Xok scene_lights_1.ok) (deep_none _) Tryd.func75 (by kernel_rfl) (sok_fn ⟨IdxL.k0, trivial⟩) (by kernel_rfl) (fun x => by kernel_rfl)
end Go.Proofs.Pen

namespace Go.Proofs.Pen
open Go Go.Proofs
noncomputable def ConL.t (x : (List (Int × Int × Int × Int)) × (Int × Int × Int × Int)) : T (Bool) := T.opt (IdxL x) fun y => T.ret (decide (y ≥ (0 : Int)))
noncomputable def ConL (x : (List (Int × Int × Int × Int)) × (Int × Int × Int × Int)) : Option (Bool) := (ConL.t x).run
noncomputable def ConL.q : List AV → T AV := entry [(.sl TLitD), (.clo 68 (.ptr TLitD))] (outR [.bool]) fun x => .opt (ConL x) .ret
theorem ConL.ok : FnOK Tryd.prog 67 ConL.q :=
  entry_call (ps := [(.sl TLitD), (.clo 68 (.ptr TLitD))]) (rs := [.bool]) (F := ({ quiet := (ext (ext Xs 75 IdxL.q) 68 scene_lights_1.q), deep := noDeep } : Fns)) (D := D0) (S := tabS []) (t := ConL.t) mixed (quiet_ext (quiet_ext Xok IdxL.ok) scene_lights_1.ok) (deep_none _) Tryd.func67 (by kernel_rfl) (sok_fn trivial) (by kernel_rfl) (fun x => by kernel_rfl)
end Go.Proofs.Pen

namespace Go.Proofs.Pen
open Go Go.Proofs
def scene_lights.L0 : List (Nat × Lay) := [(1, .box TScn), (2, .val TE), (3, .val (.clo 72 (.pair (.ptr TI) (.ptr TI)))), (11, .val (.sl TLitD)), (12, .val TI), (13, .val TI)]
noncomputable def scene_lights.t0 (x : ((List ((Int × Int × Int) × (Int × Int × Int) × Int)) × (List ((Int × Int × Int) × (Int × Int × Int) × (Int × Int × Int) × Int)) × (List (Int × Int × Int × Int)) × Int × (List (Int × Int × Int)) × ((Int × Int × Int) × (Int × Int × Int) × (Int × Int × Int) × Int × Int × Int) × Int × Int) × ErrD × (Int × Int) × (List (Int × Int × Int × Int)) × Int × Int × Unit) : T (Ex × ((List ((Int × Int × Int) × (Int × Int × Int) × Int)) × (List ((Int × Int × Int) × (Int × Int × Int) × (Int × Int × Int) × Int)) × (List (Int × Int × Int × Int)) × Int × (List (Int × Int × Int)) × ((Int × Int × Int) × (Int × Int × Int) × (Int × Int × Int) × Int × Int × Int) × Int × Int) × ErrD × (Int × Int) × (List (Int × Int × Int × Int)) × Int × Int × Unit) := T.ite (decide (x.2.2.2.2.2.1 < x.2.2.2.2.1)) (T.opt (lget x.2.2.2.1 x.2.2.2.2.2.1) fun y => T.ite (decide ((0 : Int) ≤ (0 : Int)) && decide ((0 : Int) ≤ x.2.2.2.2.2.1) && decide (x.2.2.2.2.2.1 ≤ (↑(List.length x.1.2.2.1) : Int))) (T.opt (ConL (List.take (Int.toNat x.2.2.2.2.2.1 - Int.toNat (0 : Int)) (List.drop (Int.toNat (0 : Int)) x.1.2.2.1), y)) fun y_1 => T.ite (decide (y.1 < (0 : Int)) || decide (y.1 ≥ (↑(List.length x.1.2.1) : Int)) || y_1) (T.opt (scene_broken ((2 : Int), W (x.2.2.2.2.2.1 + (1 : Int)))) fun y => T.ret (Ex.ret, x.1, y, x.2.2.1, x.2.2.2.1, x.2.2.2.2.1, x.2.2.2.2.2.1, ())) (T.opt (scene_within_1 (List.take (3 : Nat) [y.2.1, y.2.2.1, y.2.2.2], x.2.2.1)) fun y => T.ite (!y) (T.opt (scene_bound ((3 : Int), W (x.2.2.2.2.2.1 + (1 : Int)))) fun y => T.ret (Ex.ret, x.1, y, x.2.2.1, x.2.2.2.1, x.2.2.2.2.1, x.2.2.2.2.2.1, ())) (T.ret (Ex.normal, x.1, x.2.1, x.2.2.1, x.2.2.2.1, x.2.2.2.2.1, W (x.2.2.2.2.2.1 + (1 : Int)), ())))) T.fail) (T.ret (Ex.exit (0 : Nat), x.1, x.2.1, x.2.2.1, x.2.2.2.1, x.2.2.2.2.1, x.2.2.2.2.2.1, ()))
noncomputable def scene_lights.l0 (x : ((List ((Int × Int × Int) × (Int × Int × Int) × Int)) × (List ((Int × Int × Int) × (Int × Int × Int) × (Int × Int × Int) × Int)) × (List (Int × Int × Int × Int)) × Int × (List (Int × Int × Int)) × ((Int × Int × Int) × (Int × Int × Int) × (Int × Int × Int) × Int × Int × Int) × Int × Int) × ErrD × (Int × Int) × (List (Int × Int × Int × Int)) × Int × Int × Unit) : Option (Ex × ((List ((Int × Int × Int) × (Int × Int × Int) × Int)) × (List ((Int × Int × Int) × (Int × Int × Int) × (Int × Int × Int) × Int)) × (List (Int × Int × Int × Int)) × Int × (List (Int × Int × Int)) × ((Int × Int × Int) × (Int × Int × Int) × (Int × Int × Int) × Int × Int × Int) × Int × Int) × ErrD × (Int × Int) × (List (Int × Int × Int × Int)) × Int × Int × Unit) := (iterT scene_lights.t0 rounds x).run
theorem scene_lights.k0 : bodies 0 (lp Tryd.f47 []) = [.loop (loopIn 0 (lp Tryd.f47 []))] ∧ WP Tryd.prog 0 (.block 0 (.loop (loopIn 0 (lp Tryd.f47 [])))) (loopS scene_lights.L0 80 0 [.exit 0, .ret] scene_lights.l0) :=
  loop_tree (L := scene_lights.L0) (F := ({ quiet := (ext (ext (ext (ext (ext (ext (ext Xs 62 scene_within.q) 68 scene_lights_1.q) 67 ConL.q) 64 scene_broken.q) 63 scene_point.q) 61 scene_bound.q) 72 scene_within_1.q), deep := noDeep } : Fns)) (D := D0) (tab := []) (t := scene_lights.t0) mixed (quiet_ext (quiet_ext (quiet_ext (quiet_ext (quiet_ext (quiet_ext (quiet_ext Xok scene_within.ok) scene_lights_1.ok) ConL.ok) scene_broken.ok) scene_point.ok) scene_bound.ok) scene_within_1.ok) (deep_none _) (fun _ => rfl) (by kernel_rfl) (by kernel_rfl) trivial (fun x => by kernel_rfl)
def scene_lights.L2 : List (Nat × Lay) := [(2, .val TE), (3, .val (.clo 72 (.pair (.ptr TI) (.ptr TI)))), (64, .val (.sl TP)), (65, .val TI), (66, .val TI)]
noncomputable def scene_lights.t2 (x : ErrD × (Int × Int) × (List (Int × Int × Int)) × Int × Int × Unit) : T (Ex × ErrD × (Int × Int) × (List (Int × Int × Int)) × Int × Int × Unit) := T.ite (decide (x.2.2.2.2.1 < x.2.2.2.1)) (T.opt (lget x.2.2.1 x.2.2.2.2.1) fun y => T.opt (scene_within_1 (List.take (3 : Nat) [y.1, y.2.1, y.2.2], x.2.1)) fun y => T.ite (!y) (T.opt (scene_bound ((3 : Int), W (x.2.2.2.2.1 + (1 : Int)))) fun y => T.ret (Ex.ret, y, x.2.1, x.2.2.1, x.2.2.2.1, x.2.2.2.2.1, ())) (T.ret (Ex.normal, x.1, x.2.1, x.2.2.1, x.2.2.2.1, W (x.2.2.2.2.1 + (1 : Int)), ()))) (T.ret (Ex.exit (2 : Nat), x.1, x.2.1, x.2.2.1, x.2.2.2.1, x.2.2.2.2.1, ()))
noncomputable def scene_lights.l2 (x : ErrD × (Int × Int) × (List (Int × Int × Int)) × Int × Int × Unit) : Option (Ex × ErrD × (Int × Int) × (List (Int × Int × Int)) × Int × Int × Unit) := (iterT scene_lights.t2 rounds x).run
theorem scene_lights.k2 : bodies 2 (lp Tryd.f47 []) = [.loop (loopIn 2 (lp Tryd.f47 []))] ∧ WP Tryd.prog 0 (.block 2 (.loop (loopIn 2 (lp Tryd.f47 [])))) (loopS scene_lights.L2 80 2 [.exit 2, .ret] scene_lights.l2) :=
  loop_tree (L := scene_lights.L2) (F := ({ quiet := (ext (ext (ext (ext (ext (ext (ext Xs 62 scene_within.q) 68 scene_lights_1.q) 67 ConL.q) 64 scene_broken.q) 63 scene_point.q) 61 scene_bound.q) 72 scene_within_1.q), deep := noDeep } : Fns)) (D := D0) (tab := []) (t := scene_lights.t2) mixed (quiet_ext (quiet_ext (quiet_ext (quiet_ext (quiet_ext (quiet_ext (quiet_ext Xok scene_within.ok) scene_lights_1.ok) ConL.ok) scene_broken.ok) scene_point.ok) scene_bound.ok) scene_within_1.ok) (deep_none _) (fun _ => rfl) (by kernel_rfl) (by kernel_rfl) trivial (fun x => by kernel_rfl)
noncomputable def scene_lights.t (x : ((List ((Int × Int × Int) × (Int × Int × Int) × Int)) × (List ((Int × Int × Int) × (Int × Int × Int) × (Int × Int × Int) × Int)) × (List (Int × Int × Int × Int)) × Int × (List (Int × Int × Int)) × ((Int × Int × Int) × (Int × Int × Int) × (Int × Int × Int) × Int × Int × Int) × Int × Int)) : T (ErrD) := T.opt (scene_lights.l0 (x, ErrD.nil, ((0 : Int), (67108863 : Int)), x.2.2.1, (↑(List.length x.2.2.1) : Int), (0 : Int), ())) fun y => T.ite (exEq y.1 (Ex.exit (0 : Nat))) (T.ite (decide (y.2.1.2.2.2.1 < (0 : Int))) (T.opt (scene_bound ((3 : Int), (0 : Int))) fun y => T.ret y) (T.ite ((↑(List.length y.2.1.2.2.2.2.1) : Int) != W ((8 : Int) * y.2.1.2.2.2.1)) (T.opt (scene_broken ((14 : Int), (0 : Int))) fun y => T.ret y) (T.opt (scene_lights.l2 (y.2.2.1, y.2.2.2.1, y.2.1.2.2.2.2.1, (↑(List.length y.2.1.2.2.2.2.1) : Int), (0 : Int), ())) fun y => T.ite (exEq y.1 (Ex.exit (2 : Nat))) (T.ret ErrD.nil) (T.ite (exEq y.1 Ex.ret) (T.ret y.2.1) T.fail)))) (T.ite (exEq y.1 Ex.ret) (T.ret y.2.2.1) T.fail)
noncomputable def scene_lights (x : ((List ((Int × Int × Int) × (Int × Int × Int) × Int)) × (List ((Int × Int × Int) × (Int × Int × Int) × (Int × Int × Int) × Int)) × (List (Int × Int × Int × Int)) × Int × (List (Int × Int × Int)) × ((Int × Int × Int) × (Int × Int × Int) × (Int × Int × Int) × Int × Int × Int) × Int × Int)) : Option (ErrD) := (scene_lights.t x).run
noncomputable def scene_lights.q : List AV → T AV := entry [TScn] (outR [TE]) fun x => .opt (scene_lights x) .ret
theorem scene_lights.ok : FnOK Tryd.prog 47 scene_lights.q :=
  entry_call (ps := [TScn]) (rs := [TE]) (F := ({ quiet := (ext (ext (ext (ext (ext (ext (ext Xs 62 scene_within.q) 68 scene_lights_1.q) 67 ConL.q) 64 scene_broken.q) 63 scene_point.q) 61 scene_bound.q) 72 scene_within_1.q), deep := noDeep } : Fns)) (D := D0) (S := tabS [(0, loopS scene_lights.L0 80 0 [.exit 0, .ret] scene_lights.l0), (2, loopS scene_lights.L2 80 2 [.exit 2, .ret] scene_lights.l2)]) (t := scene_lights.t) mixed (quiet_ext (quiet_ext (quiet_ext (quiet_ext (quiet_ext (quiet_ext (quiet_ext Xok scene_within.ok) scene_lights_1.ok) ConL.ok) scene_broken.ok) scene_point.ok) scene_bound.ok) scene_within_1.ok) (deep_none _) Tryd.func47 (by kernel_rfl) (sok_fn ⟨scene_lights.k0, scene_lights.k2, trivial⟩) (by kernel_rfl) (fun x => by kernel_rfl)
end Go.Proofs.Pen

namespace Go.Proofs.Pen
open Go Go.Proofs
noncomputable def scene_camera.t (x : ((List ((Int × Int × Int) × (Int × Int × Int) × Int)) × (List ((Int × Int × Int) × (Int × Int × Int) × (Int × Int × Int) × Int)) × (List (Int × Int × Int × Int)) × Int × (List (Int × Int × Int)) × ((Int × Int × Int) × (Int × Int × Int) × (Int × Int × Int) × Int × Int × Int) × Int × Int)) : T (ErrD) := T.opt (scene_within_1 (List.take (3 : Nat) [x.2.2.2.2.2.1.1.1, x.2.2.2.2.2.1.1.2.1, x.2.2.2.2.2.1.1.2.2], (-1048576 : Int), (1048576 : Int))) fun y => T.ite (!y) (T.opt (scene_bound ((3 : Int), (0 : Int))) fun y => T.ret y) (T.opt (scene_within_1 (List.take (3 : Nat) [x.2.2.2.2.2.1.2.1.1, x.2.2.2.2.2.1.2.1.2.1, x.2.2.2.2.2.1.2.1.2.2], (-1048576 : Int), (1048576 : Int))) fun y => T.ite (!y) (T.opt (scene_bound ((3 : Int), (0 : Int))) fun y => T.ret y) (T.opt (scene_within_1 (List.take (3 : Nat) [x.2.2.2.2.2.1.2.2.1.1, x.2.2.2.2.2.1.2.2.1.2.1, x.2.2.2.2.2.1.2.2.1.2.2], (-1048576 : Int), (1048576 : Int))) fun y => T.ite (!y) (T.opt (scene_bound ((3 : Int), (0 : Int))) fun y => T.ret y) (T.opt (scene_within_1 (List.take (2 : Nat) [x.2.2.2.2.2.1.2.2.2.1, x.2.2.2.2.2.1.2.2.2.2.2], (1 : Int), (1048576 : Int))) fun y => T.ite (!y) (T.opt (scene_bound ((3 : Int), (0 : Int))) fun y => T.ret y) (T.opt (scene_within_1 ([x.2.2.2.2.2.1.2.2.2.2.1], (0 : Int), (1048576 : Int))) fun y => T.ite (!y) (T.opt (scene_bound ((3 : Int), (0 : Int))) fun y => T.ret y) (T.ite (W (W (W (x.2.2.2.2.2.1.2.1.2.1 - x.2.2.2.2.2.1.1.2.1) * x.2.2.2.2.2.1.2.2.1.2.2) - W (W (x.2.2.2.2.2.1.2.1.2.2 - x.2.2.2.2.2.1.1.2.2) * x.2.2.2.2.2.1.2.2.1.2.1)) == (0 : Int) && (W (W (W (x.2.2.2.2.2.1.2.1.2.2 - x.2.2.2.2.2.1.1.2.2) * x.2.2.2.2.2.1.2.2.1.1) - W (W (x.2.2.2.2.2.1.2.1.1 - x.2.2.2.2.2.1.1.1) * x.2.2.2.2.2.1.2.2.1.2.2)) == (0 : Int) && W (W (W (x.2.2.2.2.2.1.2.1.1 - x.2.2.2.2.2.1.1.1) * x.2.2.2.2.2.1.2.2.1.2.1) - W (W (x.2.2.2.2.2.1.2.1.2.1 - x.2.2.2.2.2.1.1.2.1) * x.2.2.2.2.2.1.2.2.1.1)) == (0 : Int))) (T.opt (scene_broken ((13 : Int), (0 : Int))) fun y => T.ret y) (T.ite (x.2.2.2.2.2.2.1 != (1 : Int) && x.2.2.2.2.2.2.1 != (2 : Int)) (T.opt (scene_broken ((2 : Int), (0 : Int))) fun y => T.ret y) (T.opt (scene_within_1 ([x.2.2.2.2.2.2.2], (1 : Int), (8192 : Int))) fun y => T.ite (!y) (T.opt (scene_bound ((3 : Int), (0 : Int))) fun y => T.ret y) (T.ret ErrD.nil))))))))
noncomputable def scene_camera (x : ((List ((Int × Int × Int) × (Int × Int × Int) × Int)) × (List ((Int × Int × Int) × (Int × Int × Int) × (Int × Int × Int) × Int)) × (List (Int × Int × Int × Int)) × Int × (List (Int × Int × Int)) × ((Int × Int × Int) × (Int × Int × Int) × (Int × Int × Int) × Int × Int × Int) × Int × Int)) : Option (ErrD) := (scene_camera.t x).run
noncomputable def scene_camera.q : List AV → T AV := entry [TScn] (outR [TE]) fun x => .opt (scene_camera x) .ret
theorem scene_camera.ok : FnOK Tryd.prog 48 scene_camera.q :=
  entry_call (ps := [TScn]) (rs := [TE]) (F := ({ quiet := (ext (ext (ext (ext (ext (ext (ext Xs 62 scene_within.q) 63 scene_point.q) 61 scene_bound.q) 66 scene_less.q) 65 scene_flat.q) 64 scene_broken.q) 72 scene_within_1.q), deep := noDeep } : Fns)) (D := D0) (S := tabS []) (t := scene_camera.t) mixed (quiet_ext (quiet_ext (quiet_ext (quiet_ext (quiet_ext (quiet_ext (quiet_ext Xok scene_within.ok) scene_point.ok) scene_bound.ok) scene_less.ok) scene_flat.ok) scene_broken.ok) scene_within_1.ok) (deep_none _) Tryd.func48 (by kernel_rfl) (sok_fn trivial) (by kernel_rfl) (fun x => by kernel_rfl)
end Go.Proofs.Pen

namespace Go.Proofs.Pen
open Go Go.Proofs
noncomputable def scene_Check.t (x : ((List ((Int × Int × Int) × (Int × Int × Int) × Int)) × (List ((Int × Int × Int) × (Int × Int × Int) × (Int × Int × Int) × Int)) × (List (Int × Int × Int × Int)) × Int × (List (Int × Int × Int)) × ((Int × Int × Int) × (Int × Int × Int) × (Int × Int × Int) × Int × Int × Int) × Int × Int)) : T (ErrD) := T.opt (scene_many x) fun y => T.ite (!y.isNil) (T.ret y) (T.opt (scene_mats x) fun y => T.ite (!y.isNil) (T.ret y) (T.opt (scene_tris x) fun y => T.ite (!y.isNil) (T.ret y) (T.opt (scene_lights x) fun y => T.ite (!y.isNil) (T.ret y) (T.opt (scene_camera x) fun y => T.ret y))))
noncomputable def scene_Check (x : ((List ((Int × Int × Int) × (Int × Int × Int) × Int)) × (List ((Int × Int × Int) × (Int × Int × Int) × (Int × Int × Int) × Int)) × (List (Int × Int × Int × Int)) × Int × (List (Int × Int × Int)) × ((Int × Int × Int) × (Int × Int × Int) × (Int × Int × Int) × Int × Int × Int) × Int × Int)) : Option (ErrD) := (scene_Check.t x).run
noncomputable def scene_Check.q : List AV → T AV := entry [TScn] (outR [TE]) fun x => .opt (scene_Check x) .ret
theorem scene_Check.ok : FnOK Tryd.prog 26 scene_Check.q :=
  entry_call (ps := [TScn]) (rs := [TE]) (F := ({ quiet := (ext (ext (ext (ext (ext (ext (ext Xs 44 scene_many.q) 45 scene_mats.q) 46 scene_tris.q) 47 scene_lights.q) 48 scene_camera.q) 68 scene_lights_1.q) 72 scene_within_1.q), deep := noDeep } : Fns)) (D := D0) (S := tabS []) (t := scene_Check.t) mixed (quiet_ext (quiet_ext (quiet_ext (quiet_ext (quiet_ext (quiet_ext (quiet_ext Xok scene_many.ok) scene_mats.ok) scene_tris.ok) scene_lights.ok) scene_camera.ok) scene_lights_1.ok) scene_within_1.ok) (deep_none _) Tryd.func26 (by kernel_rfl) (sok_fn trivial) (by kernel_rfl) (fun x => by kernel_rfl)
theorem scene_Check.okF : FrOK Tryd.prog 26 scene_Check.q :=
  entry_fresh (ps := [TScn]) (rs := [TE]) (F := ({ quiet := (ext (ext (ext (ext (ext (ext (ext Xs 44 scene_many.q) 45 scene_mats.q) 46 scene_tris.q) 47 scene_lights.q) 48 scene_camera.q) 68 scene_lights_1.q) 72 scene_within_1.q), deep := noDeep } : Fns)) (D := D0) (S := tabS []) (t := scene_Check.t) mixed (quiet_ext (quiet_ext (quiet_ext (quiet_ext (quiet_ext (quiet_ext (quiet_ext Xok scene_many.ok) scene_mats.ok) scene_tris.ok) scene_lights.ok) scene_camera.ok) scene_lights_1.ok) scene_within_1.ok) (deep_none _) Tryd.func26 (by kernel_rfl) (sok_fn trivial) (by kernel_rfl) (fun x => by kernel_rfl) entry_run
end Go.Proofs.Pen

namespace Go.Proofs.Pen
open Go Go.Proofs
noncomputable def ref22_bound.t (x : Int × Int) : T ((Int × Int × Int)) := T.ret ((10 : Int), x)
noncomputable def ref22_bound.q : List AV → T AV := entry [TI, TI] (outR [TP]) ref22_bound.t
theorem ref22_bound.ok : FnOK Tryd.prog 31 ref22_bound.q :=
  entry_in (ps := [TI, TI]) (rs := [TP]) (F := ({ quiet := Xs, deep := noDeep } : Fns)) (D := D0) (S := tabS []) (t := ref22_bound.t) mixed Xok (deep_none _) Tryd.func31 (by kernel_rfl) (sok_fn trivial) (by kernel_rfl) (fun x => by kernel_rfl)
end Go.Proofs.Pen

namespace Go.Proofs.Pen
open Go Go.Proofs
noncomputable def ref22_In.t (x : (Int × Int × Int) × Int × Int) : T (Bool) := T.ret (decide (x.1.1 ≥ x.2.1) && decide (x.1.1 ≤ x.2.2) && decide (x.1.2.1 ≥ x.2.1) && decide (x.1.2.1 ≤ x.2.2) && decide (x.1.2.2 ≥ x.2.1) && decide (x.1.2.2 ≤ x.2.2))
noncomputable def ref22_In.q : List AV → T AV := entry [TP, TI, TI] (outR [.bool]) ref22_In.t
theorem ref22_In.ok : FnOK Tryd.prog 52 ref22_In.q :=
  entry_in (ps := [TP, TI, TI]) (rs := [.bool]) (F := ({ quiet := Xs, deep := noDeep } : Fns)) (D := D0) (S := tabS []) (t := ref22_In.t) mixed Xok (deep_none _) Tryd.func52 (by kernel_rfl) (sok_fn trivial) (by kernel_rfl) (fun x => by kernel_rfl)
end Go.Proofs.Pen

namespace Go.Proofs.Pen
open Go Go.Proofs
noncomputable def ref22_broken.t (x : Int × Int) : T ((Int × Int × Int)) := T.ret ((11 : Int), x)
noncomputable def ref22_broken.q : List AV → T AV := entry [TI, TI] (outR [TP]) ref22_broken.t
theorem ref22_broken.ok : FnOK Tryd.prog 53 ref22_broken.q :=
  entry_in (ps := [TI, TI]) (rs := [TP]) (F := ({ quiet := Xs, deep := noDeep } : Fns)) (D := D0) (S := tabS []) (t := ref22_broken.t) mixed Xok (deep_none _) Tryd.func53 (by kernel_rfl) (sok_fn trivial) (by kernel_rfl) (fun x => by kernel_rfl)
end Go.Proofs.Pen

namespace Go.Proofs.Pen
open Go Go.Proofs
noncomputable def ref22_mat.t (x : ((Int × Int × Int) × (Int × Int × Int) × Int) × Int) : T ((Int × Int × Int)) := T.ite (decide (x.1.2.2 < (1 : Int)) || decide (x.1.2.2 > (1024 : Int))) (T.ret ((10 : Int), (3 : Int), x.2)) (T.ite (!(decide (x.1.1.1 ≥ (0 : Int)) && decide (x.1.1.1 ≤ (9223372036854775807 : Int)) && decide (x.1.1.2.1 ≥ (0 : Int)) && decide (x.1.1.2.1 ≤ (9223372036854775807 : Int)) && decide (x.1.1.2.2 ≥ (0 : Int)) && decide (x.1.1.2.2 ≤ (9223372036854775807 : Int)))) (T.ret ((10 : Int), (3 : Int), x.2)) (T.ite (!(decide (x.1.2.1.1 ≥ (0 : Int)) && decide (x.1.2.1.1 ≤ (9223372036854775807 : Int)) && decide (x.1.2.1.2.1 ≥ (0 : Int)) && decide (x.1.2.1.2.1 ≤ (9223372036854775807 : Int)) && decide (x.1.2.1.2.2 ≥ (0 : Int)) && decide (x.1.2.1.2.2 ≤ (9223372036854775807 : Int)))) (T.ret ((10 : Int), (3 : Int), x.2)) (T.ite (!(decide (x.1.1.1 ≥ (0 : Int)) && decide (x.1.1.1 ≤ (1023 : Int)) && decide (x.1.1.2.1 ≥ (0 : Int)) && decide (x.1.1.2.1 ≤ (1023 : Int)) && decide (x.1.1.2.2 ≥ (0 : Int)) && decide (x.1.1.2.2 ≤ (1023 : Int))) || decide (x.1.2.1.1 > W ((1023 : Int) - x.1.1.1)) || decide (x.1.2.1.2.1 > W ((1023 : Int) - x.1.1.2.1)) || decide (x.1.2.1.2.2 > W ((1023 : Int) - x.1.1.2.2))) (T.ret ((11 : Int), (4 : Int), x.2)) (T.ret ((0 : Int), (0 : Int), (0 : Int))))))
noncomputable def ref22_mat (x : ((Int × Int × Int) × (Int × Int × Int) × Int) × Int) : Option ((Int × Int × Int)) := (ref22_mat.t x).run
noncomputable def ref22_mat.q : List AV → T AV := entry [TMatD, TI] (outR [TP]) fun x => .opt (ref22_mat x) .ret
theorem ref22_mat.ok : FnOK Tryd.prog 32 ref22_mat.q :=
  entry_call (ps := [TMatD, TI]) (rs := [TP]) (F := ({ quiet := (ext (ext (ext Xs 52 ref22_In.q) 31 ref22_bound.q) 53 ref22_broken.q), deep := noDeep } : Fns)) (D := D0) (S := tabS []) (t := ref22_mat.t) mixed (quiet_ext (quiet_ext (quiet_ext Xok ref22_In.ok) ref22_bound.ok) ref22_broken.ok) (deep_none _) Tryd.func32 (by kernel_rfl) (sok_fn trivial) (by kernel_rfl) (fun x => by kernel_rfl)
end Go.Proofs.Pen

namespace Go.Proofs.Pen
open Go Go.Proofs
noncomputable def ref22_Flat.t (x : (Int × Int × Int) × (Int × Int × Int) × (Int × Int × Int) × (Int × Int × Int)) : T (Bool) := T.ret (W (W (x.1.2.1 - x.2.1.2.1) * W (x.2.2.1.2.2 - x.2.2.2.2.2)) == W (W (x.1.2.2 - x.2.1.2.2) * W (x.2.2.1.2.1 - x.2.2.2.2.1)) && W (W (x.1.2.2 - x.2.1.2.2) * W (x.2.2.1.1 - x.2.2.2.1)) == W (W (x.1.1 - x.2.1.1) * W (x.2.2.1.2.2 - x.2.2.2.2.2)) && W (W (x.1.1 - x.2.1.1) * W (x.2.2.1.2.1 - x.2.2.2.2.1)) == W (W (x.1.2.1 - x.2.1.2.1) * W (x.2.2.1.1 - x.2.2.2.1)))
noncomputable def ref22_Flat.q : List AV → T AV := entry [TP, TP, TP, TP] (outR [.bool]) ref22_Flat.t
theorem ref22_Flat.ok : FnOK Tryd.prog 54 ref22_Flat.q :=
  entry_in (ps := [TP, TP, TP, TP]) (rs := [.bool]) (F := ({ quiet := Xs, deep := noDeep } : Fns)) (D := D0) (S := tabS []) (t := ref22_Flat.t) mixed Xok (deep_none _) Tryd.func54 (by kernel_rfl) (sok_fn trivial) (by kernel_rfl) (fun x => by kernel_rfl)
end Go.Proofs.Pen

namespace Go.Proofs.Pen
open Go Go.Proofs
noncomputable def ref22_tri.t (x : ((Int × Int × Int) × (Int × Int × Int) × (Int × Int × Int) × Int) × Int × Int) : T ((Int × Int × Int)) := T.ite (decide (x.1.2.2.2 < (0 : Int)) || decide (x.1.2.2.2 ≥ x.2.1)) (T.ret ((11 : Int), (2 : Int), x.2.2)) (T.ite (!(decide (x.1.1.1 ≥ (-1048576 : Int)) && decide (x.1.1.1 ≤ (1048576 : Int)) && decide (x.1.1.2.1 ≥ (-1048576 : Int)) && decide (x.1.1.2.1 ≤ (1048576 : Int)) && decide (x.1.1.2.2 ≥ (-1048576 : Int)) && decide (x.1.1.2.2 ≤ (1048576 : Int)))) (T.ret ((10 : Int), (3 : Int), x.2.2)) (T.ite (!(decide (x.1.2.1.1 ≥ (-1048576 : Int)) && decide (x.1.2.1.1 ≤ (1048576 : Int)) && decide (x.1.2.1.2.1 ≥ (-1048576 : Int)) && decide (x.1.2.1.2.1 ≤ (1048576 : Int)) && decide (x.1.2.1.2.2 ≥ (-1048576 : Int)) && decide (x.1.2.1.2.2 ≤ (1048576 : Int)))) (T.ret ((10 : Int), (3 : Int), x.2.2)) (T.ite (!(decide (x.1.2.2.1.1 ≥ (-1048576 : Int)) && decide (x.1.2.2.1.1 ≤ (1048576 : Int)) && decide (x.1.2.2.1.2.1 ≥ (-1048576 : Int)) && decide (x.1.2.2.1.2.1 ≤ (1048576 : Int)) && decide (x.1.2.2.1.2.2 ≥ (-1048576 : Int)) && decide (x.1.2.2.1.2.2 ≤ (1048576 : Int)))) (T.ret ((10 : Int), (3 : Int), x.2.2)) (T.ite (W (W (x.1.2.1.2.1 - x.1.1.2.1) * W (x.1.2.2.1.2.2 - x.1.1.2.2)) == W (W (x.1.2.1.2.2 - x.1.1.2.2) * W (x.1.2.2.1.2.1 - x.1.1.2.1)) && W (W (x.1.2.1.2.2 - x.1.1.2.2) * W (x.1.2.2.1.1 - x.1.1.1)) == W (W (x.1.2.1.1 - x.1.1.1) * W (x.1.2.2.1.2.2 - x.1.1.2.2)) && W (W (x.1.2.1.1 - x.1.1.1) * W (x.1.2.2.1.2.1 - x.1.1.2.1)) == W (W (x.1.2.1.2.1 - x.1.1.2.1) * W (x.1.2.2.1.1 - x.1.1.1))) (T.ret ((11 : Int), (13 : Int), x.2.2)) (T.ret ((0 : Int), (0 : Int), (0 : Int)))))))
noncomputable def ref22_tri (x : ((Int × Int × Int) × (Int × Int × Int) × (Int × Int × Int) × Int) × Int × Int) : Option ((Int × Int × Int)) := (ref22_tri.t x).run
noncomputable def ref22_tri.q : List AV → T AV := entry [TTriD, TI, TI] (outR [TP]) fun x => .opt (ref22_tri x) .ret
theorem ref22_tri.ok : FnOK Tryd.prog 33 ref22_tri.q :=
  entry_call (ps := [TTriD, TI, TI]) (rs := [TP]) (F := ({ quiet := (ext (ext (ext (ext Xs 53 ref22_broken.q) 52 ref22_In.q) 31 ref22_bound.q) 54 ref22_Flat.q), deep := noDeep } : Fns)) (D := D0) (S := tabS []) (t := ref22_tri.t) mixed (quiet_ext (quiet_ext (quiet_ext (quiet_ext Xok ref22_broken.ok) ref22_In.ok) ref22_bound.ok) ref22_Flat.ok) (deep_none _) Tryd.func33 (by kernel_rfl) (sok_fn trivial) (by kernel_rfl) (fun x => by kernel_rfl)
end Go.Proofs.Pen

namespace Go.Proofs.Pen
open Go Go.Proofs
def ref22_light.L0 : List (Nat × Lay) := [(0, .val (.sl TLitD)), (1, .val TI), (2, .val TI), (6, .box TP), (7, .val .bool), (8, .val TI)]
noncomputable def ref22_light.t0 (x : (List (Int × Int × Int × Int)) × Int × Int × (Int × Int × Int) × Bool × Int × Unit) : T (Ex × (List (Int × Int × Int × Int)) × Int × Int × (Int × Int × Int) × Bool × Int × Unit) := T.ite (decide (x.2.2.2.2.2.1 < x.2.1)) (T.ite x.2.2.2.2.1 (T.ret (Ex.normal, x.1, x.2.1, x.2.2.1, x.2.2.2.1, true, W (x.2.2.2.2.2.1 + (1 : Int)), ())) (T.opt (lget x.1 x.2.2.2.2.2.1) fun y => T.opt (lget x.1 x.2.1) fun y_1 => T.ret (Ex.normal, x.1, x.2.1, x.2.2.1, x.2.2.2.1, y.1 == y_1.fst, W (x.2.2.2.2.2.1 + (1 : Int)), ()))) (T.ret (Ex.exit (0 : Nat), x.1, x.2.1, x.2.2.1, x.2.2.2.1, x.2.2.2.2.1, x.2.2.2.2.2.1, ()))
noncomputable def ref22_light.l0 (x : (List (Int × Int × Int × Int)) × Int × Int × (Int × Int × Int) × Bool × Int × Unit) : Option (Ex × (List (Int × Int × Int × Int)) × Int × Int × (Int × Int × Int) × Bool × Int × Unit) := (iterT ref22_light.t0 rounds x).run
theorem ref22_light.k0 : bodies 0 (lp Tryd.f34 []) = [.loop (loopIn 0 (lp Tryd.f34 []))] ∧ WP Tryd.prog 0 (.block 0 (.loop (loopIn 0 (lp Tryd.f34 [])))) (loopS ref22_light.L0 60 0 [.exit 0] ref22_light.l0) :=
  loop_tree (L := ref22_light.L0) (F := ({ quiet := (ext (ext (ext Xs 53 ref22_broken.q) 52 ref22_In.q) 31 ref22_bound.q), deep := noDeep } : Fns)) (D := D0) (tab := []) (t := ref22_light.t0) mixed (quiet_ext (quiet_ext (quiet_ext Xok ref22_broken.ok) ref22_In.ok) ref22_bound.ok) (deep_none _) (fun _ => rfl) (by kernel_rfl) (by kernel_rfl) trivial (fun x => by kernel_rfl)
noncomputable def ref22_light.t (x : (List (Int × Int × Int × Int)) × Int × Int) : T ((Int × Int × Int)) := T.opt (ref22_light.l0 (x.1, x.2.1, x.2.2, ((0 : Int), (0 : Int), (0 : Int)), false, (0 : Int), ())) fun y => T.ite (exEq y.1 (Ex.exit (0 : Nat))) (T.opt (lget y.2.1 y.2.2.1) fun y_1 => T.ite (decide (y_1.fst < (0 : Int))) (T.ret ((11 : Int), (2 : Int), W (y.2.2.1 + (1 : Int)))) (T.opt (lget y.2.1 y.2.2.1) fun y_2 => T.ite (decide (y_2.fst ≥ y.2.2.2.1) || y.2.2.2.2.2.1) (T.ret ((11 : Int), (2 : Int), W (y.2.2.1 + (1 : Int)))) (T.opt (lget y.2.1 y.2.2.1) fun y_3 => T.ite (!(decide (y_3.snd.fst ≥ (0 : Int)) && decide (y_3.snd.fst ≤ (67108863 : Int)) && decide (y_3.snd.snd.fst ≥ (0 : Int)) && decide (y_3.snd.snd.fst ≤ (67108863 : Int)) && decide (y_3.snd.snd.snd ≥ (0 : Int)) && decide (y_3.snd.snd.snd ≤ (67108863 : Int)))) (T.ret ((10 : Int), (3 : Int), W (y.2.2.1 + (1 : Int)))) (T.ret ((0 : Int), (0 : Int), (0 : Int)))))) T.fail
noncomputable def ref22_light (x : (List (Int × Int × Int × Int)) × Int × Int) : Option ((Int × Int × Int)) := (ref22_light.t x).run
noncomputable def ref22_light.q : List AV → T AV := entry [(.sl TLitD), TI, TI] (outR [TP]) fun x => .opt (ref22_light x) .ret
theorem ref22_light.ok : FnOK Tryd.prog 34 ref22_light.q :=
  entry_call (ps := [(.sl TLitD), TI, TI]) (rs := [TP]) (F := ({ quiet := (ext (ext (ext Xs 53 ref22_broken.q) 52 ref22_In.q) 31 ref22_bound.q), deep := noDeep } : Fns)) (D := D0) (S := tabS [(0, loopS ref22_light.L0 60 0 [.exit 0] ref22_light.l0)]) (t := ref22_light.t) mixed (quiet_ext (quiet_ext (quiet_ext Xok ref22_broken.ok) ref22_In.ok) ref22_bound.ok) (deep_none _) Tryd.func34 (by kernel_rfl) (sok_fn ⟨ref22_light.k0, trivial⟩) (by kernel_rfl) (fun x => by kernel_rfl)
end Go.Proofs.Pen

namespace Go.Proofs.Pen
open Go Go.Proofs
def ref22_rest.L0 : List (Nat × Lay) := [(1, .box TScn), (2, .box TP), (3, .val TI)]
noncomputable def ref22_rest.t0 (x : ((List ((Int × Int × Int) × (Int × Int × Int) × Int)) × (List ((Int × Int × Int) × (Int × Int × Int) × (Int × Int × Int) × Int)) × (List (Int × Int × Int × Int)) × Int × (List (Int × Int × Int)) × ((Int × Int × Int) × (Int × Int × Int) × (Int × Int × Int) × Int × Int × Int) × Int × Int) × (Int × Int × Int) × Int × Unit) : T (Ex × ((List ((Int × Int × Int) × (Int × Int × Int) × Int)) × (List ((Int × Int × Int) × (Int × Int × Int) × (Int × Int × Int) × Int)) × (List (Int × Int × Int × Int)) × Int × (List (Int × Int × Int)) × ((Int × Int × Int) × (Int × Int × Int) × (Int × Int × Int) × Int × Int × Int) × Int × Int) × (Int × Int × Int) × Int × Unit) := T.ite (decide (x.2.2.1 < (↑(List.length x.1.2.2.2.2.1) : Int))) (T.opt (lget x.1.2.2.2.2.1 x.2.2.1) fun y => T.ite (!(decide (y.1 ≥ (0 : Int)) && decide (y.1 ≤ (67108863 : Int)) && decide (y.2.1 ≥ (0 : Int)) && decide (y.2.1 ≤ (67108863 : Int)) && decide (y.2.2 ≥ (0 : Int)) && decide (y.2.2 ≤ (67108863 : Int)))) (T.ret (Ex.ret, x.1, ((10 : Int), (3 : Int), W (x.2.2.1 + (1 : Int))), x.2.2.1, ())) (T.ret (Ex.normal, x.1, x.2.1, W (x.2.2.1 + (1 : Int)), ()))) (T.ret (Ex.exit (0 : Nat), x.1, x.2.1, x.2.2.1, ()))
noncomputable def ref22_rest.l0 (x : ((List ((Int × Int × Int) × (Int × Int × Int) × Int)) × (List ((Int × Int × Int) × (Int × Int × Int) × (Int × Int × Int) × Int)) × (List (Int × Int × Int × Int)) × Int × (List (Int × Int × Int)) × ((Int × Int × Int) × (Int × Int × Int) × (Int × Int × Int) × Int × Int × Int) × Int × Int) × (Int × Int × Int) × Int × Unit) : Option (Ex × ((List ((Int × Int × Int) × (Int × Int × Int) × Int)) × (List ((Int × Int × Int) × (Int × Int × Int) × (Int × Int × Int) × Int)) × (List (Int × Int × Int × Int)) × Int × (List (Int × Int × Int)) × ((Int × Int × Int) × (Int × Int × Int) × (Int × Int × Int) × Int × Int × Int) × Int × Int) × (Int × Int × Int) × Int × Unit) := (iterT ref22_rest.t0 rounds x).run
theorem ref22_rest.k0 : bodies 0 (lp Tryd.f35 []) = [.loop (loopIn 0 (lp Tryd.f35 []))] ∧ WP Tryd.prog 0 (.block 0 (.loop (loopIn 0 (lp Tryd.f35 [])))) (loopS ref22_rest.L0 111 0 [.exit 0, .ret] ref22_rest.l0) :=
  loop_tree (L := ref22_rest.L0) (F := ({ quiet := (ext (ext (ext (ext Xs 31 ref22_bound.q) 53 ref22_broken.q) 52 ref22_In.q) 54 ref22_Flat.q), deep := noDeep } : Fns)) (D := D0) (tab := []) (t := ref22_rest.t0) mixed (quiet_ext (quiet_ext (quiet_ext (quiet_ext Xok ref22_bound.ok) ref22_broken.ok) ref22_In.ok) ref22_Flat.ok) (deep_none _) (fun _ => rfl) (by kernel_rfl) (by kernel_rfl) trivial (fun x => by kernel_rfl)
noncomputable def ref22_rest.t (x : ((List ((Int × Int × Int) × (Int × Int × Int) × Int)) × (List ((Int × Int × Int) × (Int × Int × Int) × (Int × Int × Int) × Int)) × (List (Int × Int × Int × Int)) × Int × (List (Int × Int × Int)) × ((Int × Int × Int) × (Int × Int × Int) × (Int × Int × Int) × Int × Int × Int) × Int × Int)) : T ((Int × Int × Int)) := T.ite (decide (x.2.2.2.1 < (0 : Int))) (T.ret ((10 : Int), (3 : Int), (0 : Int))) (T.ite ((↑(List.length x.2.2.2.2.1) : Int) != W ((8 : Int) * x.2.2.2.1)) (T.ret ((11 : Int), (14 : Int), (0 : Int))) (T.opt (ref22_rest.l0 (x, ((0 : Int), (0 : Int), (0 : Int)), (0 : Int), ())) fun y => T.ite (exEq y.1 (Ex.exit (0 : Nat))) (T.ite (!(decide (y.2.1.2.2.2.2.2.1.1.1 ≥ (-1048576 : Int)) && decide (y.2.1.2.2.2.2.2.1.1.1 ≤ (1048576 : Int)) && decide (y.2.1.2.2.2.2.2.1.1.2.1 ≥ (-1048576 : Int)) && decide (y.2.1.2.2.2.2.2.1.1.2.1 ≤ (1048576 : Int)) && decide (y.2.1.2.2.2.2.2.1.1.2.2 ≥ (-1048576 : Int)) && decide (y.2.1.2.2.2.2.2.1.1.2.2 ≤ (1048576 : Int)))) (T.ret ((10 : Int), (3 : Int), (0 : Int))) (T.ite (!(decide (y.2.1.2.2.2.2.2.1.2.1.1 ≥ (-1048576 : Int)) && decide (y.2.1.2.2.2.2.2.1.2.1.1 ≤ (1048576 : Int)) && decide (y.2.1.2.2.2.2.2.1.2.1.2.1 ≥ (-1048576 : Int)) && decide (y.2.1.2.2.2.2.2.1.2.1.2.1 ≤ (1048576 : Int)) && decide (y.2.1.2.2.2.2.2.1.2.1.2.2 ≥ (-1048576 : Int)) && decide (y.2.1.2.2.2.2.2.1.2.1.2.2 ≤ (1048576 : Int)))) (T.ret ((10 : Int), (3 : Int), (0 : Int))) (T.ite (!(decide (y.2.1.2.2.2.2.2.1.2.2.1.1 ≥ (-1048576 : Int)) && decide (y.2.1.2.2.2.2.2.1.2.2.1.1 ≤ (1048576 : Int)) && decide (y.2.1.2.2.2.2.2.1.2.2.1.2.1 ≥ (-1048576 : Int)) && decide (y.2.1.2.2.2.2.2.1.2.2.1.2.1 ≤ (1048576 : Int)) && decide (y.2.1.2.2.2.2.2.1.2.2.1.2.2 ≥ (-1048576 : Int)) && decide (y.2.1.2.2.2.2.2.1.2.2.1.2.2 ≤ (1048576 : Int))) || decide (y.2.1.2.2.2.2.2.1.2.2.2.1 < (1 : Int)) || decide (y.2.1.2.2.2.2.2.1.2.2.2.1 > (1048576 : Int)) || decide (y.2.1.2.2.2.2.2.1.2.2.2.2.1 < (0 : Int)) || decide (y.2.1.2.2.2.2.2.1.2.2.2.2.1 > (1048576 : Int)) || decide (y.2.1.2.2.2.2.2.1.2.2.2.2.2 < (1 : Int)) || decide (y.2.1.2.2.2.2.2.1.2.2.2.2.2 > (1048576 : Int))) (T.ret ((10 : Int), (3 : Int), (0 : Int))) (T.ite (W (W (y.2.1.2.2.2.2.2.1.2.1.2.1 - y.2.1.2.2.2.2.2.1.1.2.1) * W (y.2.1.2.2.2.2.2.1.2.2.1.2.2 - (0 : Int))) == W (W (y.2.1.2.2.2.2.2.1.2.1.2.2 - y.2.1.2.2.2.2.2.1.1.2.2) * W (y.2.1.2.2.2.2.2.1.2.2.1.2.1 - (0 : Int))) && W (W (y.2.1.2.2.2.2.2.1.2.1.2.2 - y.2.1.2.2.2.2.2.1.1.2.2) * W (y.2.1.2.2.2.2.2.1.2.2.1.1 - (0 : Int))) == W (W (y.2.1.2.2.2.2.2.1.2.1.1 - y.2.1.2.2.2.2.2.1.1.1) * W (y.2.1.2.2.2.2.2.1.2.2.1.2.2 - (0 : Int))) && W (W (y.2.1.2.2.2.2.2.1.2.1.1 - y.2.1.2.2.2.2.2.1.1.1) * W (y.2.1.2.2.2.2.2.1.2.2.1.2.1 - (0 : Int))) == W (W (y.2.1.2.2.2.2.2.1.2.1.2.1 - y.2.1.2.2.2.2.2.1.1.2.1) * W (y.2.1.2.2.2.2.2.1.2.2.1.1 - (0 : Int)))) (T.ret ((11 : Int), (13 : Int), (0 : Int))) (T.ite (y.2.1.2.2.2.2.2.2.1 != (1 : Int) && y.2.1.2.2.2.2.2.2.1 != (2 : Int)) (T.ret ((11 : Int), (2 : Int), (0 : Int))) (T.ite (decide (y.2.1.2.2.2.2.2.2.2 < (1 : Int)) || decide (y.2.1.2.2.2.2.2.2.2 > (8192 : Int))) (T.ret ((10 : Int), (3 : Int), (0 : Int))) (T.ret ((0 : Int), (0 : Int), (0 : Int))))))))) (T.ite (exEq y.1 Ex.ret) (T.ret y.2.2.1) T.fail)))
noncomputable def ref22_rest (x : ((List ((Int × Int × Int) × (Int × Int × Int) × Int)) × (List ((Int × Int × Int) × (Int × Int × Int) × (Int × Int × Int) × Int)) × (List (Int × Int × Int × Int)) × Int × (List (Int × Int × Int)) × ((Int × Int × Int) × (Int × Int × Int) × (Int × Int × Int) × Int × Int × Int) × Int × Int)) : Option ((Int × Int × Int)) := (ref22_rest.t x).run
noncomputable def ref22_rest.q : List AV → T AV := entry [TScn] (outR [TP]) fun x => .opt (ref22_rest x) .ret
theorem ref22_rest.ok : FnOK Tryd.prog 35 ref22_rest.q :=
  entry_call (ps := [TScn]) (rs := [TP]) (F := ({ quiet := (ext (ext (ext (ext Xs 31 ref22_bound.q) 53 ref22_broken.q) 52 ref22_In.q) 54 ref22_Flat.q), deep := noDeep } : Fns)) (D := D0) (S := tabS [(0, loopS ref22_rest.L0 111 0 [.exit 0, .ret] ref22_rest.l0)]) (t := ref22_rest.t) mixed (quiet_ext (quiet_ext (quiet_ext (quiet_ext Xok ref22_bound.ok) ref22_broken.ok) ref22_In.ok) ref22_Flat.ok) (deep_none _) Tryd.func35 (by kernel_rfl) (sok_fn ⟨ref22_rest.k0, trivial⟩) (by kernel_rfl) (fun x => by kernel_rfl)
end Go.Proofs.Pen

namespace Go.Proofs.Pen
open Go Go.Proofs
def ref22_Check.L0 : List (Nat × Lay) := [(1, .box TScn), (2, .box TP), (3, .val TI)]
noncomputable def ref22_Check.t0 (x : ((List ((Int × Int × Int) × (Int × Int × Int) × Int)) × (List ((Int × Int × Int) × (Int × Int × Int) × (Int × Int × Int) × Int)) × (List (Int × Int × Int × Int)) × Int × (List (Int × Int × Int)) × ((Int × Int × Int) × (Int × Int × Int) × (Int × Int × Int) × Int × Int × Int) × Int × Int) × (Int × Int × Int) × Int × Unit) : T (Ex × ((List ((Int × Int × Int) × (Int × Int × Int) × Int)) × (List ((Int × Int × Int) × (Int × Int × Int) × (Int × Int × Int) × Int)) × (List (Int × Int × Int × Int)) × Int × (List (Int × Int × Int)) × ((Int × Int × Int) × (Int × Int × Int) × (Int × Int × Int) × Int × Int × Int) × Int × Int) × (Int × Int × Int) × Int × Unit) := T.ite (decide (x.2.2.1 < (↑(List.length x.1.1) : Int))) (T.opt (lget x.1.1 x.2.2.1) fun y => T.opt (ref22_mat (y, W (x.2.2.1 + (1 : Int)))) fun y => T.ite (!(y.1 == (0 : Int) && (y.2.1 == (0 : Int) && y.2.2 == (0 : Int)))) (T.ret (Ex.ret, x.1, y, x.2.2.1, ())) (T.ret (Ex.normal, x.1, x.2.1, W (x.2.2.1 + (1 : Int)), ()))) (T.ret (Ex.exit (0 : Nat), x.1, x.2.1, x.2.2.1, ()))
noncomputable def ref22_Check.l0 (x : ((List ((Int × Int × Int) × (Int × Int × Int) × Int)) × (List ((Int × Int × Int) × (Int × Int × Int) × (Int × Int × Int) × Int)) × (List (Int × Int × Int × Int)) × Int × (List (Int × Int × Int)) × ((Int × Int × Int) × (Int × Int × Int) × (Int × Int × Int) × Int × Int × Int) × Int × Int) × (Int × Int × Int) × Int × Unit) : Option (Ex × ((List ((Int × Int × Int) × (Int × Int × Int) × Int)) × (List ((Int × Int × Int) × (Int × Int × Int) × (Int × Int × Int) × Int)) × (List (Int × Int × Int × Int)) × Int × (List (Int × Int × Int)) × ((Int × Int × Int) × (Int × Int × Int) × (Int × Int × Int) × Int × Int × Int) × Int × Int) × (Int × Int × Int) × Int × Unit) := (iterT ref22_Check.t0 rounds x).run
theorem ref22_Check.k0 : bodies 0 (lp Tryd.f10 []) = [.loop (loopIn 0 (lp Tryd.f10 []))] ∧ WP Tryd.prog 0 (.block 0 (.loop (loopIn 0 (lp Tryd.f10 [])))) (loopS ref22_Check.L0 92 0 [.exit 0, .ret] ref22_Check.l0) :=
  loop_tree (L := ref22_Check.L0) (F := ({ quiet := (ext (ext (ext (ext (ext Xs 31 ref22_bound.q) 32 ref22_mat.q) 33 ref22_tri.q) 34 ref22_light.q) 35 ref22_rest.q), deep := noDeep } : Fns)) (D := D0) (tab := []) (t := ref22_Check.t0) mixed (quiet_ext (quiet_ext (quiet_ext (quiet_ext (quiet_ext Xok ref22_bound.ok) ref22_mat.ok) ref22_tri.ok) ref22_light.ok) ref22_rest.ok) (deep_none _) (fun _ => rfl) (by kernel_rfl) (by kernel_rfl) trivial (fun x => by kernel_rfl)
def ref22_Check.L2 : List (Nat × Lay) := [(1, .box TScn), (2, .box TP), (5, .val TI)]
noncomputable def ref22_Check.t2 (x : ((List ((Int × Int × Int) × (Int × Int × Int) × Int)) × (List ((Int × Int × Int) × (Int × Int × Int) × (Int × Int × Int) × Int)) × (List (Int × Int × Int × Int)) × Int × (List (Int × Int × Int)) × ((Int × Int × Int) × (Int × Int × Int) × (Int × Int × Int) × Int × Int × Int) × Int × Int) × (Int × Int × Int) × Int × Unit) : T (Ex × ((List ((Int × Int × Int) × (Int × Int × Int) × Int)) × (List ((Int × Int × Int) × (Int × Int × Int) × (Int × Int × Int) × Int)) × (List (Int × Int × Int × Int)) × Int × (List (Int × Int × Int)) × ((Int × Int × Int) × (Int × Int × Int) × (Int × Int × Int) × Int × Int × Int) × Int × Int) × (Int × Int × Int) × Int × Unit) := T.ite (decide (x.2.2.1 < (↑(List.length x.1.2.1) : Int))) (T.opt (lget x.1.2.1 x.2.2.1) fun y => T.opt (ref22_tri (y, (↑(List.length x.1.1) : Int), W (x.2.2.1 + (1 : Int)))) fun y => T.ite (!(y.1 == (0 : Int) && (y.2.1 == (0 : Int) && y.2.2 == (0 : Int)))) (T.ret (Ex.ret, x.1, y, x.2.2.1, ())) (T.ret (Ex.normal, x.1, x.2.1, W (x.2.2.1 + (1 : Int)), ()))) (T.ret (Ex.exit (2 : Nat), x.1, x.2.1, x.2.2.1, ()))
noncomputable def ref22_Check.l2 (x : ((List ((Int × Int × Int) × (Int × Int × Int) × Int)) × (List ((Int × Int × Int) × (Int × Int × Int) × (Int × Int × Int) × Int)) × (List (Int × Int × Int × Int)) × Int × (List (Int × Int × Int)) × ((Int × Int × Int) × (Int × Int × Int) × (Int × Int × Int) × Int × Int × Int) × Int × Int) × (Int × Int × Int) × Int × Unit) : Option (Ex × ((List ((Int × Int × Int) × (Int × Int × Int) × Int)) × (List ((Int × Int × Int) × (Int × Int × Int) × (Int × Int × Int) × Int)) × (List (Int × Int × Int × Int)) × Int × (List (Int × Int × Int)) × ((Int × Int × Int) × (Int × Int × Int) × (Int × Int × Int) × Int × Int × Int) × Int × Int) × (Int × Int × Int) × Int × Unit) := (iterT ref22_Check.t2 rounds x).run
theorem ref22_Check.k2 : bodies 2 (lp Tryd.f10 []) = [.loop (loopIn 2 (lp Tryd.f10 []))] ∧ WP Tryd.prog 0 (.block 2 (.loop (loopIn 2 (lp Tryd.f10 [])))) (loopS ref22_Check.L2 92 2 [.exit 2, .ret] ref22_Check.l2) :=
  loop_tree (L := ref22_Check.L2) (F := ({ quiet := (ext (ext (ext (ext (ext Xs 31 ref22_bound.q) 32 ref22_mat.q) 33 ref22_tri.q) 34 ref22_light.q) 35 ref22_rest.q), deep := noDeep } : Fns)) (D := D0) (tab := []) (t := ref22_Check.t2) mixed (quiet_ext (quiet_ext (quiet_ext (quiet_ext (quiet_ext Xok ref22_bound.ok) ref22_mat.ok) ref22_tri.ok) ref22_light.ok) ref22_rest.ok) (deep_none _) (fun _ => rfl) (by kernel_rfl) (by kernel_rfl) trivial (fun x => by kernel_rfl)
def ref22_Check.L4 : List (Nat × Lay) := [(1, .box TScn), (2, .box TP), (7, .val TI)]
noncomputable def ref22_Check.t4 (x : ((List ((Int × Int × Int) × (Int × Int × Int) × Int)) × (List ((Int × Int × Int) × (Int × Int × Int) × (Int × Int × Int) × Int)) × (List (Int × Int × Int × Int)) × Int × (List (Int × Int × Int)) × ((Int × Int × Int) × (Int × Int × Int) × (Int × Int × Int) × Int × Int × Int) × Int × Int) × (Int × Int × Int) × Int × Unit) : T (Ex × ((List ((Int × Int × Int) × (Int × Int × Int) × Int)) × (List ((Int × Int × Int) × (Int × Int × Int) × (Int × Int × Int) × Int)) × (List (Int × Int × Int × Int)) × Int × (List (Int × Int × Int)) × ((Int × Int × Int) × (Int × Int × Int) × (Int × Int × Int) × Int × Int × Int) × Int × Int) × (Int × Int × Int) × Int × Unit) := T.ite (decide (x.2.2.1 < (↑(List.length x.1.2.2.1) : Int))) (T.opt (ref22_light (x.1.2.2.1, x.2.2.1, (↑(List.length x.1.2.1) : Int))) fun y => T.ite (!(y.1 == (0 : Int) && (y.2.1 == (0 : Int) && y.2.2 == (0 : Int)))) (T.ret (Ex.ret, x.1, y, x.2.2.1, ())) (T.ret (Ex.normal, x.1, x.2.1, W (x.2.2.1 + (1 : Int)), ()))) (T.ret (Ex.exit (4 : Nat), x.1, x.2.1, x.2.2.1, ()))
noncomputable def ref22_Check.l4 (x : ((List ((Int × Int × Int) × (Int × Int × Int) × Int)) × (List ((Int × Int × Int) × (Int × Int × Int) × (Int × Int × Int) × Int)) × (List (Int × Int × Int × Int)) × Int × (List (Int × Int × Int)) × ((Int × Int × Int) × (Int × Int × Int) × (Int × Int × Int) × Int × Int × Int) × Int × Int) × (Int × Int × Int) × Int × Unit) : Option (Ex × ((List ((Int × Int × Int) × (Int × Int × Int) × Int)) × (List ((Int × Int × Int) × (Int × Int × Int) × (Int × Int × Int) × Int)) × (List (Int × Int × Int × Int)) × Int × (List (Int × Int × Int)) × ((Int × Int × Int) × (Int × Int × Int) × (Int × Int × Int) × Int × Int × Int) × Int × Int) × (Int × Int × Int) × Int × Unit) := (iterT ref22_Check.t4 rounds x).run
theorem ref22_Check.k4 : bodies 4 (lp Tryd.f10 []) = [.loop (loopIn 4 (lp Tryd.f10 []))] ∧ WP Tryd.prog 0 (.block 4 (.loop (loopIn 4 (lp Tryd.f10 [])))) (loopS ref22_Check.L4 92 4 [.exit 4, .ret] ref22_Check.l4) :=
  loop_tree (L := ref22_Check.L4) (F := ({ quiet := (ext (ext (ext (ext (ext Xs 31 ref22_bound.q) 32 ref22_mat.q) 33 ref22_tri.q) 34 ref22_light.q) 35 ref22_rest.q), deep := noDeep } : Fns)) (D := D0) (tab := []) (t := ref22_Check.t4) mixed (quiet_ext (quiet_ext (quiet_ext (quiet_ext (quiet_ext Xok ref22_bound.ok) ref22_mat.ok) ref22_tri.ok) ref22_light.ok) ref22_rest.ok) (deep_none _) (fun _ => rfl) (by kernel_rfl) (by kernel_rfl) trivial (fun x => by kernel_rfl)
noncomputable def ref22_Check.t (x : ((List ((Int × Int × Int) × (Int × Int × Int) × Int)) × (List ((Int × Int × Int) × (Int × Int × Int) × (Int × Int × Int) × Int)) × (List (Int × Int × Int × Int)) × Int × (List (Int × Int × Int)) × ((Int × Int × Int) × (Int × Int × Int) × (Int × Int × Int) × Int × Int × Int) × Int × Int)) : T ((Int × Int × Int)) := T.ite (decide ((↑(List.length x.1) : Int) > (32 : Int)) || decide ((↑(List.length x.2.1) : Int) > (512 : Int)) || decide ((↑(List.length x.2.2.1) : Int) > (512 : Int)) || decide (x.2.2.2.1 > (16 : Int))) (T.ret ((10 : Int), (4 : Int), (0 : Int))) (T.opt (ref22_Check.l0 (x, ((0 : Int), (0 : Int), (0 : Int)), (0 : Int), ())) fun y => T.ite (exEq y.1 (Ex.exit (0 : Nat))) (T.opt (ref22_Check.l2 (y.2.1, y.2.2.1, (0 : Int), ())) fun y => T.ite (exEq y.1 (Ex.exit (2 : Nat))) (T.opt (ref22_Check.l4 (y.2.1, y.2.2.1, (0 : Int), ())) fun y => T.ite (exEq y.1 (Ex.exit (4 : Nat))) (T.opt (ref22_rest y.2.1) fun y => T.ret y) (T.ite (exEq y.1 Ex.ret) (T.ret y.2.2.1) T.fail)) (T.ite (exEq y.1 Ex.ret) (T.ret y.2.2.1) T.fail)) (T.ite (exEq y.1 Ex.ret) (T.ret y.2.2.1) T.fail))
noncomputable def ref22_Check (x : ((List ((Int × Int × Int) × (Int × Int × Int) × Int)) × (List ((Int × Int × Int) × (Int × Int × Int) × (Int × Int × Int) × Int)) × (List (Int × Int × Int × Int)) × Int × (List (Int × Int × Int)) × ((Int × Int × Int) × (Int × Int × Int) × (Int × Int × Int) × Int × Int × Int) × Int × Int)) : Option ((Int × Int × Int)) := (ref22_Check.t x).run
noncomputable def ref22_Check.q : List AV → T AV := entry [TScn] (outR [TP]) fun x => .opt (ref22_Check x) .ret
theorem ref22_Check.ok : FnOK Tryd.prog 10 ref22_Check.q :=
  entry_call (ps := [TScn]) (rs := [TP]) (F := ({ quiet := (ext (ext (ext (ext (ext Xs 31 ref22_bound.q) 32 ref22_mat.q) 33 ref22_tri.q) 34 ref22_light.q) 35 ref22_rest.q), deep := noDeep } : Fns)) (D := D0) (S := tabS [(0, loopS ref22_Check.L0 92 0 [.exit 0, .ret] ref22_Check.l0), (2, loopS ref22_Check.L2 92 2 [.exit 2, .ret] ref22_Check.l2), (4, loopS ref22_Check.L4 92 4 [.exit 4, .ret] ref22_Check.l4)]) (t := ref22_Check.t) mixed (quiet_ext (quiet_ext (quiet_ext (quiet_ext (quiet_ext Xok ref22_bound.ok) ref22_mat.ok) ref22_tri.ok) ref22_light.ok) ref22_rest.ok) (deep_none _) Tryd.func10 (by kernel_rfl) (sok_fn ⟨ref22_Check.k0, ref22_Check.k2, ref22_Check.k4, trivial⟩) (by kernel_rfl) (fun x => by kernel_rfl)
theorem ref22_Check.okF : FrOK Tryd.prog 10 ref22_Check.q :=
  entry_fresh (ps := [TScn]) (rs := [TP]) (F := ({ quiet := (ext (ext (ext (ext (ext Xs 31 ref22_bound.q) 32 ref22_mat.q) 33 ref22_tri.q) 34 ref22_light.q) 35 ref22_rest.q), deep := noDeep } : Fns)) (D := D0) (S := tabS [(0, loopS ref22_Check.L0 92 0 [.exit 0, .ret] ref22_Check.l0), (2, loopS ref22_Check.L2 92 2 [.exit 2, .ret] ref22_Check.l2), (4, loopS ref22_Check.L4 92 4 [.exit 4, .ret] ref22_Check.l4)]) (t := ref22_Check.t) mixed (quiet_ext (quiet_ext (quiet_ext (quiet_ext (quiet_ext Xok ref22_bound.ok) ref22_mat.ok) ref22_tri.ok) ref22_light.ok) ref22_rest.ok) (deep_none _) Tryd.func10 (by kernel_rfl) (sok_fn ⟨ref22_Check.k0, ref22_Check.k2, ref22_Check.k4, trivial⟩) (by kernel_rfl) (fun x => by kernel_rfl) entry_run
end Go.Proofs.Pen

namespace Go.Proofs.Pen
open Go Go.Proofs
noncomputable def fault_Fault_Unwrap.t (x : (Int × Int × ErrD)) : T (ErrD) := T.ret x.2.2
noncomputable def fault_Fault_Unwrap.q : List AV → T AV := entry [TF] (outR [TE]) fault_Fault_Unwrap.t
theorem fault_Fault_Unwrap.ok : FnOK Tryd.prog 96 fault_Fault_Unwrap.q :=
  entry_in (ps := [TF]) (rs := [TE]) (F := ({ quiet := Xs, deep := noDeep } : Fns)) (D := D0) (S := tabS []) (t := fault_Fault_Unwrap.t) mixed Xok (deep_none _) Tryd.func96 (by kernel_rfl) (sok_fn trivial) (by kernel_rfl) (fun x => by kernel_rfl)
end Go.Proofs.Pen

namespace Go.Proofs.Pen
open Go Go.Proofs
noncomputable def fault_Fault_Is.t (x : (Int × Int × ErrD) × Int) : T (Bool) := T.ret (x.2 == x.1.1)
noncomputable def fault_Fault_Is.q : List AV → T AV := entry [TF, (.ifi 38 .i64)] (outR [.bool]) fault_Fault_Is.t
theorem fault_Fault_Is.ok : FnOK Tryd.prog 95 fault_Fault_Is.q :=
  entry_in (ps := [TF, (.ifi 38 .i64)]) (rs := [.bool]) (F := ({ quiet := Xs, deep := noDeep } : Fns)) (D := D0) (S := tabS []) (t := fault_Fault_Is.t) mixed Xok (deep_none _) Tryd.func95 (by kernel_rfl) (sok_fn trivial) (by kernel_rfl) (fun x => by kernel_rfl)
end Go.Proofs.Pen

namespace Go.Proofs.Pen
open Go Go.Proofs
def errors_is.L3 : List (Nat × Lay) := [(1, .val (.ifi 38 .i64)), (2, .val .bool), (6, .val .bool), (43, .val .bool), (44, .val TI), (45, .val TI)]
noncomputable def errors_is.t3 (x : Int × Bool × Bool × Bool × Int × Int × Unit) : T (Ex × Int × Bool × Bool × Bool × Int × Int × Unit) := T.ite (decide (x.2.2.2.2.2.1 < x.2.2.2.2.1)) T.fail (T.ret (Ex.exit (3 : Nat), x.1, x.2.1, x.2.2.1, x.2.2.2.1, x.2.2.2.2.1, x.2.2.2.2.2.1, ()))
noncomputable def errors_is.l3 (x : Int × Bool × Bool × Bool × Int × Int × Unit) : Option (Ex × Int × Bool × Bool × Bool × Int × Int × Unit) := (iterT errors_is.t3 rounds x).run
theorem errors_is.k3 : bodies 3 (lp Tryd.f60 [0]) = [.loop (loopIn 3 (lp Tryd.f60 [0]))] ∧ WP Tryd.prog 0 (.block 3 (.loop (loopIn 3 (lp Tryd.f60 [0])))) (loopS errors_is.L3 54 3 [.exit 3, .ret] errors_is.l3) :=
  loop_tree (L := errors_is.L3) (F := ({ quiet := (ext (ext Xs 96 fault_Fault_Unwrap.q) 95 fault_Fault_Is.q), deep := noDeep } : Fns)) (D := D0) (tab := []) (t := errors_is.t3) mixed (quiet_ext (quiet_ext Xok fault_Fault_Unwrap.ok) fault_Fault_Is.ok) (deep_none _) (fun _ => rfl) (by kernel_rfl) (by kernel_rfl) trivial (fun x => by kernel_rfl)
def errors_is.L0 : List (Nat × Lay) := [(0, .val TE), (1, .val (.ifi 38 .i64)), (2, .val .bool), (6, .val .bool)]
noncomputable def errors_is.t0 (x : ErrD × Int × Bool × Bool × Unit) : T (Ex × ErrD × Int × Bool × Bool × Unit) := T.ite (x.2.2.1 && ErrD.isThe x.2.1 x.1) (T.ret (Ex.ret, x.1, x.2.1, x.2.2.1, true, ())) (T.ite (ErrD.isFault x.1) (T.ite (ErrD.onlyF x.1).isFault (T.ite (x.2.1 == (ErrD.onlyF x.1).faultC) (T.ret (Ex.ret, x.1, x.2.1, x.2.2.1, true, ())) (T.ite (ErrD.isFault x.1) (T.ite (ErrD.onlyF x.1).isFault (T.ite (ErrD.onlyF x.1).faultE.isNil (T.ret (Ex.ret, (ErrD.onlyF x.1).faultE, x.2.1, x.2.2.1, false, ())) (T.ret (Ex.normal, (ErrD.onlyF x.1).faultE, x.2.1, x.2.2.1, x.2.2.2.1, ()))) (T.ite (ErrD.onlyF x.1).isCode T.fail T.fail)) (T.ret (Ex.ret, x.1, x.2.1, x.2.2.1, false, ())))) (T.ite (ErrD.onlyF x.1).isCode T.fail T.fail)) (T.ite (ErrD.isFault x.1) (T.ite (ErrD.onlyF x.1).isFault (T.ite (ErrD.onlyF x.1).faultE.isNil (T.ret (Ex.ret, (ErrD.onlyF x.1).faultE, x.2.1, x.2.2.1, false, ())) (T.ret (Ex.normal, (ErrD.onlyF x.1).faultE, x.2.1, x.2.2.1, x.2.2.2.1, ()))) (T.ite (ErrD.onlyF x.1).isCode T.fail T.fail)) (T.ret (Ex.ret, x.1, x.2.1, x.2.2.1, false, ()))))
noncomputable def errors_is.l0 (x : ErrD × Int × Bool × Bool × Unit) : Option (Ex × ErrD × Int × Bool × Bool × Unit) := (iterT errors_is.t0 rounds x).run
theorem errors_is.k0 : bodies 0 (lp Tryd.f60 []) = [.loop (loopIn 0 (lp Tryd.f60 []))] ∧ WP Tryd.prog 0 (.block 0 (.loop (loopIn 0 (lp Tryd.f60 [])))) (loopS errors_is.L0 54 0 [.ret] errors_is.l0) :=
  loop_tree (L := errors_is.L0) (F := ({ quiet := (ext (ext Xs 96 fault_Fault_Unwrap.q) 95 fault_Fault_Is.q), deep := noDeep } : Fns)) (D := D0) (tab := [(3, loopS errors_is.L3 54 3 [.exit 3, .ret] errors_is.l3)]) (t := errors_is.t0) mixed (quiet_ext (quiet_ext Xok fault_Fault_Unwrap.ok) fault_Fault_Is.ok) (deep_none _) (fun _ => rfl) (by kernel_rfl) (by kernel_rfl) ⟨errors_is.k3, trivial⟩ (fun x => by kernel_rfl)
noncomputable def errors_is.t (x : ErrD × Int × Bool) : T (Bool) := T.opt (errors_is.l0 (x.1, x.2.1, x.2.2, false, ())) fun y => T.ite (exEq y.1 Ex.ret) (T.ret y.2.2.2.2.1) T.fail
noncomputable def errors_is (x : ErrD × Int × Bool) : Option (Bool) := (errors_is.t x).run
noncomputable def errors_is.q : List AV → T AV := entry [TE, (.ifi 38 .i64), .bool] (outR [.bool]) fun x => .opt (errors_is x) .ret
theorem errors_is.ok : FnOK Tryd.prog 60 errors_is.q :=
  entry_call (ps := [TE, (.ifi 38 .i64), .bool]) (rs := [.bool]) (F := ({ quiet := (ext (ext Xs 96 fault_Fault_Unwrap.q) 95 fault_Fault_Is.q), deep := noDeep } : Fns)) (D := D0) (S := tabS [(0, loopS errors_is.L0 54 0 [.ret] errors_is.l0)]) (t := errors_is.t) mixed (quiet_ext (quiet_ext Xok fault_Fault_Unwrap.ok) fault_Fault_Is.ok) (deep_none _) Tryd.func60 (by kernel_rfl) (sok_fn ⟨errors_is.k0, trivial⟩) (by kernel_rfl) (fun x => by kernel_rfl)
end Go.Proofs.Pen

namespace Go.Proofs.Pen
open Go Go.Proofs
noncomputable def errors_Is.t (x : ErrD × Int) : T (Bool) := T.ite (ErrD.isNil x.1) (T.ret (ErrD.isThe x.2 x.1)) (T.opt (errors_is (x.1, x.2, true)) fun y => T.ret y)
noncomputable def errors_Is (x : ErrD × Int) : Option (Bool) := (errors_Is.t x).run
noncomputable def errors_Is.q : List AV → T AV := entry [TE, (.ifi 38 .i64)] (outR [.bool]) fun x => .opt (errors_Is x) .ret
theorem errors_Is.ok : FnOK Tryd.prog 38 errors_Is.q :=
  entry_call (ps := [TE, (.ifi 38 .i64)]) (rs := [.bool]) (F := ({ quiet := (ext Xs 60 errors_is.q), deep := noDeep } : Fns)) (D := D0) (S := tabS []) (t := errors_Is.t) mixed (quiet_ext Xok errors_is.ok) (deep_none _) Tryd.func38 (by kernel_rfl) (sok_fn trivial) (by kernel_rfl) (fun x => by kernel_rfl)
end Go.Proofs.Pen

namespace Go.Proofs.Pen
open Go Go.Proofs
noncomputable def fault_Is.t (x : ErrD × Int) : T (Bool) := T.ite (!ErrD.isNil x.1) (T.opt (errors_Is x) fun y => T.ret y) (T.ret false)
noncomputable def fault_Is (x : ErrD × Int) : Option (Bool) := (fault_Is.t x).run
noncomputable def fault_Is.q : List AV → T AV := entry [TE, TI] (outR [.bool]) fun x => .opt (fault_Is x) .ret
theorem fault_Is.ok : FnOK Tryd.prog 36 fault_Is.q :=
  entry_call (ps := [TE, TI]) (rs := [.bool]) (F := ({ quiet := (ext Xs 38 errors_Is.q), deep := noDeep } : Fns)) (D := D0) (S := tabS []) (t := fault_Is.t) mixed (quiet_ext Xok errors_Is.ok) (deep_none _) Tryd.func36 (by kernel_rfl) (sok_fn trivial) (by kernel_rfl) (fun x => by kernel_rfl)
end Go.Proofs.Pen

namespace Go.Proofs.Pen
open Go Go.Proofs
noncomputable def merge_Broken.t (x : ErrD) : T (Bool) := T.opt (errors_Is (x, (11 : Int))) fun y => T.ite y (T.ret true) (T.opt (errors_Is (x, (10 : Int))) fun y => T.ret y)
noncomputable def merge_Broken (x : ErrD) : Option (Bool) := (merge_Broken.t x).run
noncomputable def merge_Broken.q : List AV → T AV := entry [TE] (outR [.bool]) fun x => .opt (merge_Broken x) .ret
theorem merge_Broken.ok : FnOK Tryd.prog 14 merge_Broken.q :=
  entry_call (ps := [TE]) (rs := [.bool]) (F := ({ quiet := (ext Xs 38 errors_Is.q), deep := noDeep } : Fns)) (D := D0) (S := tabS []) (t := merge_Broken.t) mixed (quiet_ext Xok errors_Is.ok) (deep_none _) Tryd.func14 (by kernel_rfl) (sok_fn trivial) (by kernel_rfl) (fun x => by kernel_rfl)
end Go.Proofs.Pen

namespace Go.Proofs.Pen
open Go Go.Proofs
noncomputable def law48_wrong.t (x : ErrD × (Int × Int × Int)) : T (Bool) := T.ite (!ErrD.isNil x.1) (T.ite (ErrD.top x.1 == x.2.1) (T.opt (fault_Is (x.1, x.2.2.1)) fun y => T.ite y (T.opt (merge_Broken x.1) fun y => T.ret y) (T.ret false)) (T.ret false)) (T.ret false)
noncomputable def law48_wrong (x : ErrD × (Int × Int × Int)) : Option (Bool) := (law48_wrong.t x).run
noncomputable def law48_wrong.q : List AV → T AV := entry [TE, TP] (outR [.bool]) fun x => .opt (law48_wrong x) .ret
theorem law48_wrong.ok : FnOK Tryd.prog 11 law48_wrong.q :=
  entry_call (ps := [TE, TP]) (rs := [.bool]) (F := ({ quiet := (ext (ext Xs 36 fault_Is.q) 14 merge_Broken.q), deep := noDeep } : Fns)) (D := D0) (S := tabS []) (t := law48_wrong.t) mixed (quiet_ext (quiet_ext Xok fault_Is.ok) merge_Broken.ok) (deep_none _) Tryd.func11 (by kernel_rfl) (sok_fn trivial) (by kernel_rfl) (fun x => by kernel_rfl)
end Go.Proofs.Pen

namespace Go.Proofs.Pen
open Go Go.Proofs

/-! ### Chains of faults -/
def ErrD.depth : ErrD → Nat
  | .nil => 0
  | .code _ => 1
  | .fault _ _ e => e.depth + 1

/-- It is a code, or wraps one. -/
def ErrD.has (c : Int) : ErrD → Bool
  | .nil => false
  | .code d => d == c
  | .fault d _ e => c == d || e.has c

/-- The faults, from the outermost on. -/
def mkR : List (Int × Int) → ErrD
  | [] => .nil
  | p :: l => .fault p.1 p.2 (mkR l)

theorem depth_mkR : ∀ l, (mkR l).depth = l.length
  | [] => rfl
  | p :: l => by simp [mkR, ErrD.depth, depth_mkR l]

theorem has_mkR (c : Int) : ∀ l, (mkR l).has c = l.any fun p => c == p.1
  | [] => rfl
  | p :: l => by simp [mkR, ErrD.has, has_mkR c l]


theorem iter_stop {σ : Type} {t : σ → T (Ex × σ)} {n : Nat} {x y : σ} {e : Ex} (he : e ≠ .normal) (h : (t x).run = some (e, y)) : (iterT t (n + 1) x).run = some (e, y) := by
  rw [iter_step h]
  cases e <;> first | exact absurd rfl he | rfl
theorem iter_go {σ : Type} {t : σ → T (Ex × σ)} {n : Nat} {x y : σ} (h : (t x).run = some (.normal, y)) : (iterT t (n + 1) x).run = (iterT t n y).run := by
  rw [iter_step h]

theorem is_run (c : Int) (r : Bool) : ∀ (e : ErrD) (m : Nat), e.depth < m → ∃ e', (iterT errors_is.t0 m (e, c, true, r, ())).run = some (.ret, e', c, true, e.has c, ())
  | .nil, 0, h => absurd h (Nat.not_lt_zero _)
  | .nil, m + 1, _ => ⟨_, iter_stop (by simp) rfl⟩
  | .code d, 0, h => absurd h (Nat.not_lt_zero _)
  | .code d, m + 1, _ => by
    refine ⟨.code d, iter_stop (by simp) ?_⟩
    unfold errors_is.t0
    dsimp only [ErrD.isThe, ErrD.isFault]
    rw [tr_ite]
    cases h : d == c
    · simp [h, tr_ite, tr_ret, ErrD.has]
    · simp [h, tr_ret, ErrD.has]
  | .fault d l e, 0, h => absurd h (Nat.not_lt_zero _)
  | .fault d l e, m + 1, hm => by
    have hm : e.depth < m := by simp only [ErrD.depth] at hm; omega
    by_cases h : c == d
    · refine ⟨.fault d l e, iter_stop (by simp) ?_⟩
      unfold errors_is.t0
      dsimp only [ErrD.isThe, ErrD.isFault, ErrD.onlyF, ErrD.faultC]
      simp [h, tr_ite, tr_ret, ErrD.has]
    · have h' : (c == d) = false := by simpa using h
      by_cases hn : e.isNil = true
      · refine ⟨e, iter_stop (by simp) ?_⟩
        unfold errors_is.t0
        dsimp only [ErrD.isThe, ErrD.isFault, ErrD.onlyF, ErrD.faultC, ErrD.faultE]
        have he : e = .nil := by cases e <;> simp [ErrD.isNil] at hn; rfl
        subst he
        simp [h', tr_ite, tr_ret, ErrD.has, ErrD.isNil]
      · obtain ⟨e', he⟩ := is_run c r e m hm
        refine ⟨e', ?_⟩
        have hn' : e.isNil = false := by simpa using hn
        have h0 : (errors_is.t0 (.fault d l e, c, true, r, ())).run = some (.normal, e, c, true, r, ()) := by
          unfold errors_is.t0
          dsimp only [ErrD.isThe, ErrD.isFault, ErrD.onlyF, ErrD.faultC, ErrD.faultE]
          simp [h', hn', tr_ite, tr_ret]
        rw [iter_go h0, he]
        simp only [ErrD.has, h', Bool.false_or]

theorem Is_eq (e : ErrD) (c : Int) (h : e.depth ≤ 1000) : fault_Is (e, c) = some (e.has c) := by
  have e0 : ∀ e, e.isNil = false → e.depth ≤ 1000 → errors_Is (e, c) = some (e.has c) := by
    intro e hn hd
    have h1 : errors_is (e, c, true) = some (e.has c) := by
      obtain ⟨e', he⟩ := is_run c false e rounds (rounds_gt (by omega))
      unfold errors_is errors_is.t
      dsimp only
      have hl : errors_is.l0 (e, c, true, false, ()) = some (.ret, e', c, true, e.has c, ()) := he
      rw [tr_opt, hl, Option.bind_some, tr_ite, if_pos (by rfl), tr_ret]
    unfold errors_Is errors_Is.t
    dsimp only
    rw [tr_ite, hn, if_neg (by simp), tr_opt, h1, Option.bind_some, tr_ret]
  unfold fault_Is fault_Is.t
  dsimp only
  cases e with
  | nil => rfl
  | code d => rw [tr_ite, if_pos (by rfl), tr_opt, e0 _ rfl h, Option.bind_some, tr_ret]
  | fault d l e => rw [tr_ite, if_pos (by rfl), tr_opt, e0 _ rfl h, Option.bind_some, tr_ret]

theorem nn {n : Nat} (h : n < 1000) : W ((n : Int) + 1) = ((n + 1 : Nat) : Int) := W_succ (by omega)

theorem New_eq {c l : Int} (h : ¬ (c == 0) = true) : fault_New (c, l) = some (.fault c l .nil) := by
  unfold fault_New fault_New.t
  rw [tr_ite, if_neg h, tr_ret]

theorem Wrap_eq {e : ErrD} {c l : Int} (he : e.isNil = false) (h : ¬ (c == 0) = true) : fault_Wrap (e, c, l) = some (.fault c l e) := by
  unfold fault_Wrap fault_Wrap.t
  dsimp only
  rw [tr_ite, he, Bool.false_or, if_neg h, tr_ret]

end Go.Proofs.Pen

namespace Go.Proofs.Pen
open Go Go.Proofs

/-! ### What is wrong first -/
abbrev W3 := Int × Int × Int

def firstF (f : Nat → Option W3) : Nat → Nat → Option (Nat × W3)
  | _, 0 => none
  | k, n + 1 => match f k with
    | some w => some (k, w)
    | none => firstF f (k + 1) n

/-- A loop that stops at the first fault. -/
theorem iter_first {σ : Type} {t : σ → T (Ex × σ)} (st : Nat → σ) (f : Nat → Option W3) (er : Nat → W3 → σ) {e : Ex} {z : σ} (he : e ≠ .normal) : ∀ (n k m : Nat),
    (∀ i, k ≤ i → i < k + n → f i = none → (t (st i)).run = some (.normal, st (i + 1))) → (∀ i w, k ≤ i → i < k + n → f i = some w → (t (st i)).run = some (.ret, er i w)) →
    (t (st (k + n))).run = some (e, z) → n < m → (iterT t m (st k)).run = some (match firstF f k n with | some (i, w) => (.ret, er i w) | none => (e, z))
  | n, k, 0, _, _, _, hm => absurd hm (Nat.not_lt_zero _)
  | 0, k, m + 1, _, _, h2, _ => by
    rw [Nat.add_zero] at h2
    exact iter_stop he h2
  | n + 1, k, m + 1, h0, h1, h2, hm => by
    unfold firstF
    cases hf : f k with
    | some w => exact iter_stop (by simp) (h1 k w (Nat.le_refl _) (by omega) hf)
    | none =>
      rw [iter_go (h0 k (Nat.le_refl _) (by omega) hf)]
      exact iter_first st f er he n (k + 1) m (fun i a b => h0 i (by omega) (by omega)) (fun i w a b => h1 i w (by omega) (by omega)) (by rw [show k + 1 + n = k + (n + 1) by omega]; exact h2) (by omega)

theorem firstF_some {f : Nat → Option W3} : ∀ {n k i : Nat} {w : W3}, firstF f k n = some (i, w) → k ≤ i ∧ i < k + n ∧ f i = some w
  | 0, k, i, w, h => by cases h
  | n + 1, k, i, w, h => by
    unfold firstF at h
    cases hf : f k with
    | some w' => rw [hf] at h; cases h; exact ⟨Nat.le_refl _, by omega, hf⟩
    | none =>
      rw [hf] at h
      obtain ⟨h1, h2, h3⟩ := firstF_some h
      exact ⟨by omega, by omega, h3⟩

theorem firstF_none {f : Nat → Option W3} : ∀ {n k : Nat}, firstF f k n = none → ∀ i, k ≤ i → i < k + n → f i = none
  | 0, k, _, i, h1, h2 => by omega
  | n + 1, k, h, i, h1, h2 => by
    unfold firstF at h
    cases hf : f k with
    | some w' => rw [hf] at h; cases h
    | none =>
      rw [hf] at h
      rcases Nat.lt_or_ge k i with hi | hi
      · exact firstF_none h i (by omega) (by omega)
      · have : i = k := by omega
        subst this; exact hf

/-- The error that tells it. -/
def mkErr : Option W3 → ErrD
  | none => .nil
  | some w => .fault w.1 0 (.fault w.2.1 w.2.2 .nil)
def mkW : Option W3 → W3
  | none => (0, 0, 0)
  | some w => w

theorem bound_eq {c p : Int} (h : ¬ (c == 0) = true) : scene_bound (c, p) = some (mkErr (some (10, c, p))) := by
  have e1 : fault_Wrap (.fault c p .nil, 10, 0) = _ := Wrap_eq rfl (by decide)
  unfold scene_bound scene_bound.t
  rw [tr_opt, New_eq h, Option.bind_some, tr_opt, e1, Option.bind_some, tr_ret]; rfl
theorem broken_eq {c p : Int} (h : ¬ (c == 0) = true) : scene_broken (c, p) = some (mkErr (some (11, c, p))) := by
  have e1 : fault_Wrap (.fault c p .nil, 11, 0) = _ := Wrap_eq rfl (by decide)
  unfold scene_broken scene_broken.t
  rw [tr_opt, New_eq h, Option.bind_some, tr_opt, e1, Option.bind_some, tr_ret]; rfl

/-! ### Limits -/
def inB (lo hi : Int) (l : List Int) : Bool := l.all fun a => decide (lo ≤ a) && decide (a ≤ hi)

def mnF (m y : Int) : Int := if y < m then y else m
def mxF (m y : Int) : Int := if y > m then y else m

theorem mn_ge (lo : Int) : ∀ (t : List Int) (a : Int), lo ≤ t.foldl mnF a ↔ lo ≤ a ∧ ∀ b ∈ t, lo ≤ b
  | [], a => by simp
  | b :: t, a => by
    rw [List.foldl_cons, mn_ge lo t]
    have : lo ≤ mnF a b ↔ lo ≤ a ∧ lo ≤ b := by unfold mnF; split <;> omega
    rw [this]
    simp [and_assoc]
theorem mx_le (hi : Int) : ∀ (t : List Int) (a : Int), t.foldl mxF a ≤ hi ↔ a ≤ hi ∧ ∀ b ∈ t, b ≤ hi
  | [], a => by simp
  | b :: t, a => by
    rw [List.foldl_cons, mx_le hi t]
    have : mxF a b ≤ hi ↔ a ≤ hi ∧ b ≤ hi := by unfold mxF; split <;> omega
    rw [this]
    simp [and_assoc]

theorem fold_take (f : Int → Int → Int) (a : Int) (t : List Int) {k : Nat} (h : k < t.length) : (t.take (k + 1)).foldl f a = f ((t.take k).foldl f a) t[k] := by
  rw [List.take_succ_eq_append_getElem h, List.foldl_append]; rfl

theorem Min_eq (a : Int) (t : List Int) (h : t.length < 900) : slices_Min (a :: t) = some (t.foldl mnF a) := by
  have hl : slices_Min.l0 (a :: t, a, 1, ()) = some (.exit 0, a :: t, t.foldl mnF a, ((t.length + 1 : Nat) : Int), ()) := by
    have := iter_count (t := slices_Min.t0) (fun k => ((a :: t, (t.take (k - 1)).foldl mnF a, (k : Int), ()) : List Int × Int × Int × Unit)) (e := .exit 0) (z := (a :: t, t.foldl mnF a, ((t.length + 1 : Nat) : Int), ())) (by simp) t.length 1 rounds (fun i h1 hi => ?_) ?_ (rounds_gt (by omega))
    · exact this
    · have hi : i < t.length + 1 := by omega
      unfold slices_Min.t0
      dsimp only
      have hg : lget (a :: t) (i : Int) = some (t[i - 1]'(by omega)) := by
        rw [lget_nat (a :: t) (by simpa using hi)]
        congr 1
        rw [List.getElem_cons]
        split
        · omega
        · rfl
      rw [tr_ite, decide_eq_true (by simp; omega), if_pos rfl, tr_opt, hg, Option.bind_some, tr_ret, W_succ (by omega)]
      have e1 : i + 1 - 1 = (i - 1) + 1 := by omega
      rw [e1, fold_take mnF a t (by omega)]
      rfl
    · unfold slices_Min.t0
      dsimp only
      have e1 : 1 + t.length - 1 = t.length := by omega
      have e2 : ((1 + t.length : Nat) : Int) = ((t.length + 1 : Nat) : Int) := by omega
      rw [tr_ite, decide_eq_false (by simp; omega), if_neg (by simp), tr_ret, e1, e2, List.take_length]
  unfold slices_Min slices_Min.t
  have hg : lget (a :: t) 0 = some a := rfl
  rw [tr_ite, decide_eq_false (by simp; omega), if_neg (by simp), tr_opt, hg, Option.bind_some, tr_opt, hl, Option.bind_some, tr_ite, if_pos (by rfl), tr_ret]

theorem Max_eq (a : Int) (t : List Int) (h : t.length < 900) : slices_Max (a :: t) = some (t.foldl mxF a) := by
  have hl : slices_Max.l0 (a :: t, a, 1, ()) = some (.exit 0, a :: t, t.foldl mxF a, ((t.length + 1 : Nat) : Int), ()) := by
    have := iter_count (t := slices_Max.t0) (fun k => ((a :: t, (t.take (k - 1)).foldl mxF a, (k : Int), ()) : List Int × Int × Int × Unit)) (e := .exit 0) (z := (a :: t, t.foldl mxF a, ((t.length + 1 : Nat) : Int), ())) (by simp) t.length 1 rounds (fun i h1 hi => ?_) ?_ (rounds_gt (by omega))
    · exact this
    · have hi : i < t.length + 1 := by omega
      unfold slices_Max.t0
      dsimp only
      have hg : lget (a :: t) (i : Int) = some (t[i - 1]'(by omega)) := by
        rw [lget_nat (a :: t) (by simpa using hi)]
        congr 1
        rw [List.getElem_cons]
        split
        · omega
        · rfl
      rw [tr_ite, decide_eq_true (by simp; omega), if_pos rfl, tr_opt, hg, Option.bind_some, tr_ret, W_succ (by omega)]
      have e1 : i + 1 - 1 = (i - 1) + 1 := by omega
      rw [e1, fold_take mxF a t (by omega)]
      rfl
    · unfold slices_Max.t0
      dsimp only
      have e1 : 1 + t.length - 1 = t.length := by omega
      have e2 : ((1 + t.length : Nat) : Int) = ((t.length + 1 : Nat) : Int) := by omega
      rw [tr_ite, decide_eq_false (by simp; omega), if_neg (by simp), tr_ret, e1, e2, List.take_length]
  unfold slices_Max slices_Max.t
  have hg : lget (a :: t) 0 = some a := rfl
  rw [tr_ite, decide_eq_false (by simp; omega), if_neg (by simp), tr_opt, hg, Option.bind_some, tr_opt, hl, Option.bind_some, tr_ite, if_pos (by rfl), tr_ret]

theorem within_eq (a : Int) (t : List Int) (lo hi : Int) (h : t.length < 900) : scene_within_1 (a :: t, lo, hi) = some (inB lo hi (a :: t)) := by
  unfold scene_within_1 scene_within_1.t
  dsimp only
  rw [tr_opt, Min_eq a t h, Option.bind_some, tr_ite, tr_opt, Max_eq a t h, Option.bind_some]
  have e1 := mn_ge lo t a
  have e2 := mx_le hi t a
  have e3 : inB lo hi (a :: t) = (decide (lo ≤ t.foldl mnF a) && decide (t.foldl mxF a ≤ hi)) := by
    rw [Bool.eq_iff_iff]
    simp only [inB, List.all_cons, Bool.and_eq_true, List.all_eq_true, decide_eq_true_eq, e1, e2]
    constructor
    · rintro ⟨⟨h1, h2⟩, h3⟩; exact ⟨⟨h1, fun b hb => (h3 b hb).1⟩, h2, fun b hb => (h3 b hb).2⟩
    · rintro ⟨⟨h1, h2⟩, h3, h4⟩; exact ⟨⟨h1, h3⟩, fun b hb => ⟨h2 b hb, h4 b hb⟩⟩
  rw [e3]
  show (if decide (lo ≤ t.foldl mnF a) = true then some (decide (t.foldl mxF a ≤ hi)) else some false) = _
  cases decide (lo ≤ t.foldl mnF a) <;> simp

/-- The same, as the document's answer says it. -/
def in3 (p : W3) (lo hi : Int) : Bool := decide (p.1 ≥ lo) && decide (p.1 ≤ hi) && decide (p.2.1 ≥ lo) && decide (p.2.1 ≤ hi) && decide (p.2.2 ≥ lo) && decide (p.2.2 ≤ hi)
theorem inB3 (p : W3) (lo hi : Int) : inB lo hi [p.1, p.2.1, p.2.2] = in3 p lo hi := by
  unfold inB in3
  simp only [List.all_cons, List.all_nil, Bool.and_true, ge_iff_le]
  simp only [Bool.and_assoc]
theorem within3 (p : W3) (lo hi : Int) : scene_within_1 (List.take 3 [p.1, p.2.1, p.2.2], lo, hi) = some (in3 p lo hi) := by
  rw [← inB3]; exact within_eq p.1 [p.2.1, p.2.2] lo hi (by simp)
theorem within1 (a lo hi : Int) : scene_within_1 ([a], lo, hi) = some (decide (lo ≤ a) && decide (a ≤ hi)) := by
  rw [within_eq a [] lo hi (by simp)]; simp [inB]

/-! ### Outer products -/
theorem W_sub0 (a b : Int) : (W (W a - W b) == 0) = (W a == W b) := by
  have h1 := W_in a
  have h2 := W_in b
  have h3 := W_def (W a - W b)
  rw [Bool.eq_iff_iff, beq_iff_eq, beq_iff_eq, h3]
  split <;> omega

def flatB (a b : W3) : Bool := W (a.2.1 * b.2.2) == W (a.2.2 * b.2.1) && (W (a.2.2 * b.1) == W (a.1 * b.2.2) && W (a.1 * b.2.1) == W (a.2.1 * b.1))
def lessW (a b : W3) : W3 := (W (a.1 - b.1), W (a.2.1 - b.2.1), W (a.2.2 - b.2.2))
end Go.Proofs.Pen

namespace Go.Proofs.Pen
open Go Go.Proofs

theorem nf {b : Bool} (h : ¬ b = false) : b = true := by cases b <;> simp_all

abbrev MatT := W3 × W3 × Int
abbrev TriT := W3 × W3 × W3 × Int
abbrev LitT := Int × W3
abbrev CamT := W3 × W3 × W3 × Int × Int × Int
abbrev ScT := List MatT × List TriT × List LitT × Int × List W3 × CamT × Int × Int


def over1 (a b : Int) : Bool := decide (1024 ≤ a + b)
def matW (m : MatT) (p : Int) : Option W3 :=
  if (decide (1 ≤ m.2.2) && decide (m.2.2 ≤ 1024) && in3 m.1 0 9223372036854775807 && in3 m.2.1 0 9223372036854775807) = false then some (10, 3, p)
  else if (over1 m.1.1 m.2.1.1 || over1 m.1.2.1 m.2.1.2.1 || over1 m.1.2.2 m.2.1.2.2) = true then some (11, 4, p) else none
def triW (nm : Int) (t : TriT) (p : Int) : Option W3 :=
  if (decide (t.2.2.2 < 0) || decide (t.2.2.2 ≥ nm)) = true then some (11, 2, p)
  else if (in3 t.1 (-1048576) 1048576 && in3 t.2.1 (-1048576) 1048576 && in3 t.2.2.1 (-1048576) 1048576) = false then some (10, 3, p)
  else if flatB (lessW t.2.1 t.1) (lessW t.2.2.1 t.1) = true then some (11, 13, p) else none
def litW (nt : Int) (ahead : List LitT) (t : LitT) (p : Int) : Option W3 :=
  if (decide (t.1 < 0) || decide (t.1 ≥ nt) || ahead.any fun y => t.1 == y.1) = true then some (11, 2, p)
  else if in3 t.2 0 67108863 = false then some (10, 3, p) else none
def celW (c : W3) (p : Int) : Option W3 := if in3 c 0 67108863 = false then some (10, 3, p) else none
def camW (x : ScT) : Option W3 :=
  let c := x.2.2.2.2.2.1
  if (in3 c.1 (-1048576) 1048576 && in3 c.2.1 (-1048576) 1048576 && in3 c.2.2.1 (-1048576) 1048576 && (decide (1 ≤ c.2.2.2.1) && decide (c.2.2.2.1 ≤ 1048576)) && (decide (1 ≤ c.2.2.2.2.2) && decide (c.2.2.2.2.2 ≤ 1048576)) && (decide (0 ≤ c.2.2.2.2.1) && decide (c.2.2.2.2.1 ≤ 1048576))) = false then some (10, 3, 0)
  else if flatB (lessW c.2.1 c.1) c.2.2.1 = true then some (11, 13, 0)
  else if (x.2.2.2.2.2.2.1 != 1 && x.2.2.2.2.2.2.1 != 2) = true then some (11, 2, 0)
  else if (decide (1 ≤ x.2.2.2.2.2.2.2) && decide (x.2.2.2.2.2.2.2 ≤ 8192)) = false then some (10, 3, 0) else none

def fM (x : ScT) (k : Nat) : Option W3 := x.1[k]?.bind fun m => matW m ((k + 1 : Nat) : Int)
def fT (x : ScT) (k : Nat) : Option W3 := x.2.1[k]?.bind fun t => triW (x.1.length : Int) t ((k + 1 : Nat) : Int)
def fL (x : ScT) (k : Nat) : Option W3 := x.2.2.1[k]?.bind fun t => litW (x.2.1.length : Int) (x.2.2.1.take k) t ((k + 1 : Nat) : Int)
def fC (x : ScT) (k : Nat) : Option W3 := x.2.2.2.2.1[k]?.bind fun c => celW c ((k + 1 : Nat) : Int)

def bigB (x : ScT) : Bool := decide ((x.1.length : Int) > 32) || decide ((x.2.1.length : Int) > 512) || decide ((x.2.2.1.length : Int) > 512) || decide (x.2.2.2.1 > 16)

def wC (x : ScT) : Option W3 := (firstF (fC x) 0 x.2.2.2.2.1.length).map (·.2)
def wL (x : ScT) : Option W3 := (firstF (fL x) 0 x.2.2.1.length).map (·.2)
def wT (x : ScT) : Option W3 := (firstF (fT x) 0 x.2.1.length).map (·.2)
def wM (x : ScT) : Option W3 := (firstF (fM x) 0 x.1.length).map (·.2)
def wZ (x : ScT) : Option W3 :=
  if decide (x.2.2.2.1 < 0) = true then some (10, 3, 0)
  else if ((x.2.2.2.2.1.length : Int) != W (8 * x.2.2.2.1)) = true then some (11, 14, 0) else wC x
def orElse' (a b : Option W3) : Option W3 := match a with
  | some w => some w
  | none => b
/-- What is wrong with a scene. -/
def wr (x : ScT) : Option W3 := if bigB x = true then some (10, 4, 0) else orElse' (wM x) (orElse' (wT x) (orElse' (orElse' (wL x) (wZ x)) (camW x)))

/-- Not far too great. -/
def lightB (x : ScT) : Prop := x.1.length ≤ 900 ∧ x.2.1.length ≤ 900 ∧ x.2.2.1.length ≤ 900 ∧ x.2.2.2.2.1.length ≤ 900

/-! ### The program's answer -/
theorem in3_iff {p : W3} {lo hi : Int} : in3 p lo hi = true ↔ (lo ≤ p.1 ∧ p.1 ≤ hi) ∧ (lo ≤ p.2.1 ∧ p.2.1 ≤ hi) ∧ (lo ≤ p.2.2 ∧ p.2.2 ≤ hi) := by
  unfold in3
  simp only [Bool.and_eq_true, decide_eq_true_eq, ge_iff_le]
  constructor
  · rintro ⟨⟨⟨⟨⟨a, b⟩, c⟩, d⟩, e⟩, f⟩; exact ⟨⟨a, b⟩, ⟨c, d⟩, e, f⟩
  · rintro ⟨⟨a, b⟩, ⟨c, d⟩, e, f⟩; exact ⟨⟨⟨⟨⟨a, b⟩, c⟩, d⟩, e⟩, f⟩

theorem mats2 (e : ErrD) (lim : Int × Int) (i : Nat) (kd ks : W3) (r : Int) (l : List MatT) (n j : Int) (hi : i < 900) (h1 : in3 kd 0 9223372036854775807 = true) (h2 : in3 ks 0 9223372036854775807 = true) :
    ∃ ex k, scene_mats.l2 (e, lim, (i : Int), (kd, ks, r), l, n, j, List.take 3 [kd.1, kd.2.1, kd.2.2], ((List.take 3 [kd.1, kd.2.1, kd.2.2]).length : Int), 0, ()) =
      some (ex, (if exEq ex .ret = true then mkErr (some (11, 4, ((i + 1 : Nat) : Int))) else e), lim, (i : Int), (kd, ks, r), l, n, j, [kd.1, kd.2.1, kd.2.2], 3, k, ()) ∧
      ((ex = .exit 2 ∧ (over1 kd.1 ks.1 || over1 kd.2.1 ks.2.1 || over1 kd.2.2 ks.2.2) = false) ∨ (ex = .ret ∧ (over1 kd.1 ks.1 || over1 kd.2.1 ks.2.1 || over1 kd.2.2 ks.2.2) = true)) := by
  obtain ⟨⟨a1, a2⟩, ⟨a3, a4⟩, a5, a6⟩ := in3_iff.1 h1
  obtain ⟨⟨b1, b2⟩, ⟨b3, b4⟩, b5, b6⟩ := in3_iff.1 h2
  let st : Nat → ErrD × (Int × Int) × Int × MatT × List MatT × Int × Int × List Int × Int × Int × Unit := fun k => (e, lim, (i : Int), (kd, ks, r), l, n, j, [kd.1, kd.2.1, kd.2.2], 3, (k : Int), ())
  let f : Nat → Option W3 := fun k => if over1 ([kd.1, kd.2.1, kd.2.2].getD k 0) ([ks.1, ks.2.1, ks.2.2].getD k 0) = true then some (11, 4, ((i + 1 : Nat) : Int)) else none
  have step : ∀ k : Nat, k < 3 → ∃ a b, lget [kd.1, kd.2.1, kd.2.2] (k : Int) = some a ∧ lget (List.take 3 [ks.1, ks.2.1, ks.2.2]) (k : Int) = some b ∧ 0 ≤ a ∧ a ≤ 9223372036854775807 ∧ 0 ≤ b ∧ b ≤ 9223372036854775807 ∧ f k = (if over1 a b = true then some (11, 4, ((i + 1 : Nat) : Int)) else none) := by
    intro k hk
    rcases k with _ | _ | _ | k
    · exact ⟨kd.1, ks.1, rfl, rfl, a1, a2, b1, b2, rfl⟩
    · exact ⟨kd.2.1, ks.2.1, rfl, rfl, a3, a4, b3, b4, rfl⟩
    · exact ⟨kd.2.2, ks.2.2, rfl, rfl, a5, a6, b5, b6, rfl⟩
    · omega
  have hb : scene_broken (4, W ((i : Int) + 1)) = some (mkErr (some (11, 4, ((i + 1 : Nat) : Int)))) := by rw [nn (by omega)]; exact broken_eq (by decide)
  have hw : ∀ a b : Int, 0 ≤ a → a < 1024 → 0 ≤ b → W (a + if (1024 : Int) < b then 1024 else b) = a + if (1024 : Int) < b then 1024 else b := by
    intro a b q1 q2 q3
    split <;> exact W_id (by omega) (by omega)
  have run := iter_first (t := scene_mats.t2) st f (fun (k : Nat) w => (mkErr (some w), lim, (i : Int), (kd, ks, r), l, n, j, [kd.1, kd.2.1, kd.2.2], 3, (k : Int), ())) (e := .exit 2) (z := st 3) (by simp) 3 0 rounds
    (fun k _ hk hf => by
      obtain ⟨a, b, g1, g2, c1, c2, c3, c4, hfk⟩ := step k (by omega)
      have ho : over1 a b = false := by
        rw [hfk] at hf
        by_cases h : over1 a b = true
        · rw [if_pos h] at hf; cases hf
        · simpa using h
      unfold over1 at ho
      have ho := of_decide_eq_false ho
      show (scene_mats.t2 (e, lim, (i : Int), (kd, ks, r), l, n, j, [kd.1, kd.2.1, kd.2.2], 3, (k : Int), ())).run = _
      unfold scene_mats.t2
      dsimp only
      rw [tr_ite, decide_eq_true (by omega), if_pos rfl, tr_opt, g1, Option.bind_some, tr_ite, decide_eq_false (by omega), if_neg (by simp), tr_opt, g2, Option.bind_some, tr_ite, hw a b c1 (by omega) c3]
      rw [decide_eq_false (by split <;> omega), if_neg (by simp), tr_ret, W_succ (by omega)])
    (fun k w _ hk hf => by
      obtain ⟨a, b, g1, g2, c1, c2, c3, c4, hfk⟩ := step k (by omega)
      have ho : over1 a b = true ∧ w = (11, 4, ((i + 1 : Nat) : Int)) := by
        rw [hfk] at hf
        by_cases h : over1 a b = true
        · rw [if_pos h] at hf; cases hf; exact ⟨h, rfl⟩
        · rw [if_neg h] at hf; cases hf
      obtain ⟨ho, rfl⟩ := ho
      unfold over1 at ho
      have ho := of_decide_eq_true ho
      show (scene_mats.t2 (e, lim, (i : Int), (kd, ks, r), l, n, j, [kd.1, kd.2.1, kd.2.2], 3, (k : Int), ())).run = _
      unfold scene_mats.t2
      dsimp only
      rw [tr_ite, decide_eq_true (by omega), if_pos rfl, tr_opt, g1, Option.bind_some, tr_ite]
      by_cases hc : (1024 : Int) ≤ a
      · rw [decide_eq_true hc, if_pos rfl, tr_opt, hb, Option.bind_some, tr_ret]
      · rw [decide_eq_false hc, if_neg (by simp), tr_opt, g2, Option.bind_some, tr_ite, hw a b c1 (by omega) c3]
        rw [decide_eq_true (by split <;> omega), if_pos rfl, tr_opt, hb, Option.bind_some, tr_ret])
    (by
      show (scene_mats.t2 (e, lim, (i : Int), (kd, ks, r), l, n, j, [kd.1, kd.2.1, kd.2.2], 3, ((0 + 3 : Nat) : Int), ())).run = _
      unfold scene_mats.t2
      dsimp only
      rw [tr_ite, decide_eq_false (by omega), if_neg (by simp), tr_ret]) (rounds_gt (by omega))
  have hl : scene_mats.l2 (e, lim, (i : Int), (kd, ks, r), l, n, j, List.take 3 [kd.1, kd.2.1, kd.2.2], ((List.take 3 [kd.1, kd.2.1, kd.2.2]).length : Int), 0, ()) = _ := run
  rw [hl]
  have f0 : f 0 = if over1 kd.1 ks.1 = true then some (11, 4, ((i + 1 : Nat) : Int)) else none := rfl
  have f1 : f 1 = if over1 kd.2.1 ks.2.1 = true then some (11, 4, ((i + 1 : Nat) : Int)) else none := rfl
  have f2 : f 2 = if over1 kd.2.2 ks.2.2 = true then some (11, 4, ((i + 1 : Nat) : Int)) else none := rfl
  cases o1 : over1 kd.1 ks.1 with
  | true =>
    rw [o1, if_pos rfl] at f0
    refine ⟨.ret, 0, ?_, .inr ⟨rfl, by simp⟩⟩
    simp only [firstF, f0]; rfl
  | false =>
    rw [o1, if_neg (by simp)] at f0
    cases o2 : over1 kd.2.1 ks.2.1 with
    | true =>
      rw [o2, if_pos rfl] at f1
      refine ⟨.ret, 1, ?_, .inr ⟨rfl, by simp⟩⟩
      simp only [firstF, f0, f1]; rfl
    | false =>
      rw [o2, if_neg (by simp)] at f1
      cases o3 : over1 kd.2.2 ks.2.2 with
      | true =>
        rw [o3, if_pos rfl] at f2
        refine ⟨.ret, 2, ?_, .inr ⟨rfl, by simp⟩⟩
        simp only [firstF, f0, f1, f2]; rfl
      | false =>
        rw [o3, if_neg (by simp)] at f2
        refine ⟨.exit 2, 3, ?_, .inl ⟨rfl, by simp⟩⟩
        simp only [firstF, f0, f1, f2]; rfl

theorem mats_eq (x : ScT) (hx : x.1.length ≤ 900) : scene_mats x = some (mkErr (wM x)) := by
  have run := iter_first (t := scene_mats.t0) (fun k => (.nil, (0, 9223372036854775807), x.1, (x.1.length : Int), (k : Int), ())) (fM x) (fun k w => (mkErr (some w), (0, 9223372036854775807), x.1, (x.1.length : Int), (k : Int), ())) (e := .exit 0) (z := (.nil, (0, 9223372036854775807), x.1, (x.1.length : Int), (x.1.length : Int), ())) (by simp) x.1.length 0 rounds
    (fun k _ hk hf => by
      have hlt : k < x.1.length := by omega
      unfold fM at hf
      rw [List.getElem?_eq_getElem hlt, Option.bind_some] at hf
      generalize hm : x.1[k] = m at hf
      obtain ⟨kd, ks, r⟩ := m
      unfold matW at hf
      dsimp only at hf
      split at hf
      · cases hf
      rename_i hok
      have hok : (decide (1 ≤ r) && decide (r ≤ 1024) && in3 kd 0 9223372036854775807 && in3 ks 0 9223372036854775807) = true := nf hok
      simp only [Bool.and_eq_true] at hok
      obtain ⟨⟨⟨q1, q2⟩, q3⟩, q4⟩ := hok
      split at hf
      · cases hf
      rename_i hov
      obtain ⟨ex, j, e1, e2⟩ := mats2 .nil (0, 9223372036854775807) k kd ks r x.1 (x.1.length : Int) (k : Int) (by omega) q3 q4
      rcases e2 with ⟨rfl, _⟩ | ⟨_, e2⟩
      · unfold scene_mats.t0
        dsimp only
        rw [tr_ite, decide_eq_true (by omega), if_pos rfl, tr_opt, lget_nat x.1 hlt, Option.bind_some, hm, tr_opt]
        dsimp only
        rw [within1, Option.bind_some, tr_ite, q1, q2, if_neg (by simp), tr_opt, within3, Option.bind_some, tr_ite, q3, if_neg (by simp), tr_opt, within3, Option.bind_some, tr_ite, q4, if_neg (by simp), tr_opt, e1, Option.bind_some, tr_ite, if_pos (by rfl), tr_ret, W_succ (by omega)]
        rfl
      · exact absurd e2 hov)
    (fun k w _ hk hf => by
      have hlt : k < x.1.length := by omega
      unfold fM at hf
      rw [List.getElem?_eq_getElem hlt, Option.bind_some] at hf
      generalize hm : x.1[k] = m at hf
      obtain ⟨kd, ks, r⟩ := m
      have hb : scene_bound (3, W ((k : Int) + 1)) = some (mkErr (some (10, 3, ((k + 1 : Nat) : Int)))) := by rw [nn (by omega)]; exact bound_eq (by decide)
      unfold scene_mats.t0
      dsimp only
      rw [tr_ite, decide_eq_true (by omega), if_pos rfl, tr_opt, lget_nat x.1 hlt, Option.bind_some, hm, tr_opt]
      dsimp only
      rw [within1, Option.bind_some, tr_ite, tr_opt, hb]
      unfold matW at hf
      dsimp only at hf
      split at hf
      · rename_i hok
        cases hf
        cases q1 : (decide (1 ≤ r) && decide (r ≤ 1024))
        · rw [if_pos (by simp), Option.bind_some, tr_ret]
        · rw [if_neg (by simp), tr_opt, within3, Option.bind_some, tr_ite]
          cases q3 : in3 kd 0 9223372036854775807
          · rw [if_pos (by simp), tr_opt, Option.bind_some, tr_ret]
          · rw [if_neg (by simp), tr_opt, within3, Option.bind_some, tr_ite]
            cases q4 : in3 ks 0 9223372036854775807
            · rw [if_pos (by simp), tr_opt, Option.bind_some, tr_ret]
            · rw [q1, q3, q4] at hok; cases hok
      · rename_i hok
        have hok : (decide (1 ≤ r) && decide (r ≤ 1024) && in3 kd 0 9223372036854775807 && in3 ks 0 9223372036854775807) = true := nf hok
        simp only [Bool.and_eq_true] at hok
        obtain ⟨⟨⟨q1, q2⟩, q3⟩, q4⟩ := hok
        split at hf
        · rename_i hov
          cases hf
          obtain ⟨ex, j, e1, e2⟩ := mats2 .nil (0, 9223372036854775807) k kd ks r x.1 (x.1.length : Int) (k : Int) (by omega) q3 q4
          rcases e2 with ⟨_, e2⟩ | ⟨rfl, _⟩
          · rw [e2] at hov; cases hov
          · rw [q1, q2, if_neg (by simp), tr_opt, within3, Option.bind_some, tr_ite, q3, if_neg (by simp), tr_opt, within3, Option.bind_some, tr_ite, q4, if_neg (by simp), tr_opt, e1, Option.bind_some, tr_ite, if_neg (by simp [exEq]), tr_ite, if_pos (by rfl), tr_ret]
            rfl
        · cases hf)
    (by
      rw [Nat.zero_add]
      unfold scene_mats.t0
      dsimp only
      rw [tr_ite, decide_eq_false (by omega), if_neg (by simp), tr_ret]) (rounds_gt (by omega))
  have hl : scene_mats.l0 (.nil, (0, 9223372036854775807), x.1, (x.1.length : Int), 0, ()) = _ := run
  unfold scene_mats scene_mats.t
  rw [tr_opt, hl, Option.bind_some]
  unfold wM
  cases hf : firstF (fM x) 0 x.1.length with
  | none => rfl
  | some p => rfl

theorem tris_eq (x : ScT) (hx : x.2.1.length ≤ 900) : scene_tris x = some (mkErr (wT x)) := by
  have run := iter_first (t := scene_tris.t0) (fun k => (x, .nil, (-1048576, 1048576), x.2.1, (x.2.1.length : Int), (k : Int), ())) (fT x) (fun k w => (x, mkErr (some w), (-1048576, 1048576), x.2.1, (x.2.1.length : Int), (k : Int), ())) (e := .exit 0) (z := (x, .nil, (-1048576, 1048576), x.2.1, (x.2.1.length : Int), (x.2.1.length : Int), ())) (by simp) x.2.1.length 0 rounds
    (fun k _ hk hf => by
      have hlt : k < x.2.1.length := by omega
      unfold fT at hf
      rw [List.getElem?_eq_getElem hlt, Option.bind_some] at hf
      generalize hm : x.2.1[k] = m at hf
      unfold scene_tris.t0
      dsimp only
      rw [tr_ite, decide_eq_true (by omega), if_pos rfl, tr_opt, lget_nat x.2.1 hlt, Option.bind_some, hm, tr_ite]
      unfold triW at hf
      split at hf
      · cases hf
      rename_i h1
      rw [if_neg h1, tr_opt, within3, Option.bind_some, tr_ite]
      split at hf
      · cases hf
      rename_i h2
      have h2 : (in3 m.1 (-1048576) 1048576 && in3 m.2.1 (-1048576) 1048576 && in3 m.2.2.1 (-1048576) 1048576) = true := nf h2
      simp only [Bool.and_eq_true] at h2
      obtain ⟨⟨q1, q2⟩, q3⟩ := h2
      rw [q1, if_neg (by simp), tr_opt, within3, Option.bind_some, tr_ite, q2, if_neg (by simp), tr_opt, within3, Option.bind_some, tr_ite, q3, if_neg (by simp), tr_ite, W_sub0, W_sub0, W_sub0]
      split at hf
      · cases hf
      rename_i h3
      have h3' : ¬ (W (W (m.2.1.2.1 - m.1.2.1) * W (m.2.2.1.2.2 - m.1.2.2)) == W (W (m.2.1.2.2 - m.1.2.2) * W (m.2.2.1.2.1 - m.1.2.1)) && (W (W (m.2.1.2.2 - m.1.2.2) * W (m.2.2.1.1 - m.1.1)) == W (W (m.2.1.1 - m.1.1) * W (m.2.2.1.2.2 - m.1.2.2)) && W (W (m.2.1.1 - m.1.1) * W (m.2.2.1.2.1 - m.1.2.1)) == W (W (m.2.1.2.1 - m.1.2.1) * W (m.2.2.1.1 - m.1.1)))) = true := h3
      rw [if_neg h3', tr_ret, W_succ (by omega)])
    (fun k w _ hk hf => by
      have hlt : k < x.2.1.length := by omega
      unfold fT at hf
      rw [List.getElem?_eq_getElem hlt, Option.bind_some] at hf
      generalize hm : x.2.1[k] = m at hf
      have hb : scene_bound (3, W ((k : Int) + 1)) = some (mkErr (some (10, 3, ((k + 1 : Nat) : Int)))) := by rw [nn (by omega)]; exact bound_eq (by decide)
      have hb2 : scene_broken (2, W ((k : Int) + 1)) = some (mkErr (some (11, 2, ((k + 1 : Nat) : Int)))) := by rw [nn (by omega)]; exact broken_eq (by decide)
      have hb3 : scene_broken (13, W ((k : Int) + 1)) = some (mkErr (some (11, 13, ((k + 1 : Nat) : Int)))) := by rw [nn (by omega)]; exact broken_eq (by decide)
      unfold scene_tris.t0
      dsimp only
      rw [tr_ite, decide_eq_true (by omega), if_pos rfl, tr_opt, lget_nat x.2.1 hlt, Option.bind_some, hm, tr_ite]
      unfold triW at hf
      split at hf
      · rename_i h1
        cases hf
        rw [if_pos h1, tr_opt, hb2, Option.bind_some, tr_ret]
      rename_i h1
      rw [if_neg h1, tr_opt, within3, Option.bind_some, tr_ite, tr_opt, hb]
      split at hf
      · rename_i h2
        cases hf
        cases q1 : in3 m.1 (-1048576) 1048576
        · rw [if_pos (by simp), Option.bind_some, tr_ret]
        · rw [if_neg (by simp), tr_opt, within3, Option.bind_some, tr_ite]
          cases q2 : in3 m.2.1 (-1048576) 1048576
          · rw [if_pos (by simp), tr_opt, Option.bind_some, tr_ret]
          · rw [if_neg (by simp), tr_opt, within3, Option.bind_some, tr_ite]
            cases q3 : in3 m.2.2.1 (-1048576) 1048576
            · rw [if_pos (by simp), tr_opt, Option.bind_some, tr_ret]
            · rw [q1, q2, q3] at h2; cases h2
      rename_i h2
      have h2 : (in3 m.1 (-1048576) 1048576 && in3 m.2.1 (-1048576) 1048576 && in3 m.2.2.1 (-1048576) 1048576) = true := nf h2
      simp only [Bool.and_eq_true] at h2
      obtain ⟨⟨q1, q2⟩, q3⟩ := h2
      rw [q1, if_neg (by simp), tr_opt, within3, Option.bind_some, tr_ite, q2, if_neg (by simp), tr_opt, within3, Option.bind_some, tr_ite, q3, if_neg (by simp), tr_ite, W_sub0, W_sub0, W_sub0]
      split at hf
      · rename_i h3
        cases hf
        have h3' : (W (W (m.2.1.2.1 - m.1.2.1) * W (m.2.2.1.2.2 - m.1.2.2)) == W (W (m.2.1.2.2 - m.1.2.2) * W (m.2.2.1.2.1 - m.1.2.1)) && (W (W (m.2.1.2.2 - m.1.2.2) * W (m.2.2.1.1 - m.1.1)) == W (W (m.2.1.1 - m.1.1) * W (m.2.2.1.2.2 - m.1.2.2)) && W (W (m.2.1.1 - m.1.1) * W (m.2.2.1.2.1 - m.1.2.1)) == W (W (m.2.1.2.1 - m.1.2.1) * W (m.2.2.1.1 - m.1.1)))) = true := h3
        rw [if_pos h3', tr_opt, hb3, Option.bind_some, tr_ret]
      · cases hf)
    (by
      rw [Nat.zero_add]
      unfold scene_tris.t0
      dsimp only
      rw [tr_ite, decide_eq_false (by omega), if_neg (by simp), tr_ret]) (rounds_gt (by omega))
  have hl : scene_tris.l0 (x, .nil, (-1048576, 1048576), x.2.1, (x.2.1.length : Int), 0, ()) = _ := run
  unfold scene_tris scene_tris.t
  rw [tr_opt, hl, Option.bind_some]
  unfold wT
  cases hf : firstF (fT x) 0 x.2.1.length with
  | none => rfl
  | some p => rfl
end Go.Proofs.Pen

namespace Go.Proofs.Pen
open Go Go.Proofs

theorem ConL_eq (l : List LitT) (e : LitT) (h : l.length ≤ 900) : ConL (l, e) = some (l.any fun y => e.1 == y.1) := by
  have key : ∀ (n k m : Nat) (r : Int), k + n = l.length → n < m → ∃ ex a b, (iterT IdxL.t0 m (l, e, r, (l.length : Int), (k : Int), ())).run = some (ex, l, e, a, (l.length : Int), b, ()) ∧
      ((ex = .exit 0 ∧ ((l.drop k).any fun y => e.1 == y.1) = false) ∨ (ex = .ret ∧ 0 ≤ a ∧ ((l.drop k).any fun y => e.1 == y.1) = true)) := by
    intro n
    induction n with
    | zero =>
      intro k m r hk hm
      obtain ⟨m, rfl⟩ : ∃ j, m = j + 1 := ⟨m - 1, by omega⟩
      have hd : l.drop k = [] := List.drop_eq_nil_of_le (by omega)
      rw [hd]
      refine ⟨.exit 0, r, (k : Int), iter_stop (by simp) ?_, .inl ⟨rfl, rfl⟩⟩
      unfold IdxL.t0
      dsimp only
      rw [tr_ite, decide_eq_false (by omega), if_neg (by simp), tr_ret]
    | succ n ih =>
      intro k m r hk hm
      obtain ⟨m, rfl⟩ : ∃ j, m = j + 1 := ⟨m - 1, by omega⟩
      have hlt : k < l.length := by omega
      have hd : l.drop k = l[k] :: l.drop (k + 1) := List.drop_eq_getElem_cons hlt
      rw [hd, List.any_cons]
      cases hc : e.1 == l[k].1 with
      | true =>
        refine ⟨.ret, (k : Int), (k : Int), iter_stop (by simp) ?_, .inr ⟨rfl, by omega, by simp⟩⟩
        unfold IdxL.t0
        dsimp only
        rw [tr_ite, decide_eq_true (by omega), if_pos rfl, tr_opt, lget_nat l hlt, Option.bind_some, tr_ite, hc, if_pos rfl, tr_ret]
      | false =>
        obtain ⟨ex, a, b, h1, h2⟩ := ih (k + 1) m r (by omega) (by omega)
        refine ⟨ex, a, b, ?_, by simpa using h2⟩
        have h0 : (IdxL.t0 (l, e, r, (l.length : Int), (k : Int), ())).run = some (.normal, l, e, r, (l.length : Int), ((k + 1 : Nat) : Int), ()) := by
          unfold IdxL.t0
          dsimp only
          rw [tr_ite, decide_eq_true (by omega), if_pos rfl, tr_opt, lget_nat l hlt, Option.bind_some, tr_ite, hc, if_neg (by simp), tr_ret, W_succ (by omega)]
        rw [iter_go h0]; exact h1
  obtain ⟨ex, a, b, h1, h2⟩ := key l.length 0 rounds 0 (by omega) (rounds_gt (by omega))
  rw [List.drop_zero] at h2
  have hl : IdxL.l0 (l, e, 0, (l.length : Int), 0, ()) = some (ex, l, e, a, (l.length : Int), b, ()) := h1
  have hi : ∃ i, IdxL (l, e) = some i ∧ decide (i ≥ 0) = (l.any fun y => e.1 == y.1) := by
    unfold IdxL IdxL.t
    dsimp only
    rw [tr_opt, hl, Option.bind_some]
    rcases h2 with ⟨rfl, h2⟩ | ⟨rfl, h3, h2⟩
    · exact ⟨-1, rfl, by rw [h2]; rfl⟩
    · exact ⟨a, rfl, by rw [h2]; exact decide_eq_true h3⟩
  obtain ⟨i, e1, e2⟩ := hi
  unfold ConL ConL.t
  rw [tr_opt, e1, Option.bind_some, tr_ret, e2]

theorem cells_eq (x : ScT) (e : ErrD) (hx : x.2.2.2.2.1.length ≤ 900) : scene_lights.l2 (e, (0, 67108863), x.2.2.2.2.1, (x.2.2.2.2.1.length : Int), 0, ()) =
    some (match firstF (fC x) 0 x.2.2.2.2.1.length with | some (i, w) => (.ret, mkErr (some w), (0, 67108863), x.2.2.2.2.1, (x.2.2.2.2.1.length : Int), (i : Int), ()) | none => (.exit 2, e, (0, 67108863), x.2.2.2.2.1, (x.2.2.2.2.1.length : Int), (x.2.2.2.2.1.length : Int), ())) :=
  iter_first (t := scene_lights.t2) (fun k => (e, (0, 67108863), x.2.2.2.2.1, (x.2.2.2.2.1.length : Int), (k : Int), ())) (fC x) (fun k w => (mkErr (some w), (0, 67108863), x.2.2.2.2.1, (x.2.2.2.2.1.length : Int), (k : Int), ())) (e := .exit 2) (z := (e, (0, 67108863), x.2.2.2.2.1, (x.2.2.2.2.1.length : Int), (x.2.2.2.2.1.length : Int), ())) (by simp) x.2.2.2.2.1.length 0 rounds
    (fun k _ hk hf => by
      have hlt : k < x.2.2.2.2.1.length := by omega
      unfold fC at hf
      rw [List.getElem?_eq_getElem hlt, Option.bind_some] at hf
      generalize hm : x.2.2.2.2.1[k] = m at hf
      unfold scene_lights.t2
      dsimp only
      rw [tr_ite, decide_eq_true (by omega), if_pos rfl, tr_opt, lget_nat x.2.2.2.2.1 hlt, Option.bind_some, hm, tr_opt, within3, Option.bind_some, tr_ite]
      unfold celW at hf
      split at hf
      · cases hf
      rename_i h1
      have h1 : in3 m 0 67108863 = true := nf h1
      rw [h1, if_neg (by simp), tr_ret, W_succ (by omega)])
    (fun k w _ hk hf => by
      have hlt : k < x.2.2.2.2.1.length := by omega
      unfold fC at hf
      rw [List.getElem?_eq_getElem hlt, Option.bind_some] at hf
      generalize hm : x.2.2.2.2.1[k] = m at hf
      have hb : scene_bound (3, W ((k : Int) + 1)) = some (mkErr (some (10, 3, ((k + 1 : Nat) : Int)))) := by rw [nn (by omega)]; exact bound_eq (by decide)
      unfold scene_lights.t2
      dsimp only
      rw [tr_ite, decide_eq_true (by omega), if_pos rfl, tr_opt, lget_nat x.2.2.2.2.1 hlt, Option.bind_some, hm, tr_opt, within3, Option.bind_some, tr_ite]
      unfold celW at hf
      split at hf
      · rename_i h1
        cases hf
        rw [h1, if_pos (by simp), tr_opt, hb, Option.bind_some, tr_ret]
      · cases hf)
    (by
      rw [Nat.zero_add]
      unfold scene_lights.t2
      dsimp only
      rw [tr_ite, decide_eq_false (by omega), if_neg (by simp), tr_ret]) (rounds_gt (by omega))

theorem lits_eq (x : ScT) (hx : x.2.2.1.length ≤ 900) : scene_lights.l0 (x, .nil, (0, 67108863), x.2.2.1, (x.2.2.1.length : Int), 0, ()) =
    some (match firstF (fL x) 0 x.2.2.1.length with | some (i, w) => (.ret, x, mkErr (some w), (0, 67108863), x.2.2.1, (x.2.2.1.length : Int), (i : Int), ()) | none => (.exit 0, x, .nil, (0, 67108863), x.2.2.1, (x.2.2.1.length : Int), (x.2.2.1.length : Int), ())) :=
  iter_first (t := scene_lights.t0) (fun k => (x, .nil, (0, 67108863), x.2.2.1, (x.2.2.1.length : Int), (k : Int), ())) (fL x) (fun k w => (x, mkErr (some w), (0, 67108863), x.2.2.1, (x.2.2.1.length : Int), (k : Int), ())) (e := .exit 0) (z := (x, .nil, (0, 67108863), x.2.2.1, (x.2.2.1.length : Int), (x.2.2.1.length : Int), ())) (by simp) x.2.2.1.length 0 rounds
    (fun k _ hk hf => by
      have hlt : k < x.2.2.1.length := by omega
      unfold fL at hf
      rw [List.getElem?_eq_getElem hlt, Option.bind_some] at hf
      generalize hm : x.2.2.1[k] = m at hf
      have hsl : (decide ((0 : Int) ≤ 0) && decide ((0 : Int) ≤ (k : Int)) && decide ((k : Int) ≤ (x.2.2.1.length : Int))) = true := by
        rw [decide_eq_true (by omega), decide_eq_true (by omega), decide_eq_true (by omega)]; rfl
      have hcon : ConL (List.take (Int.toNat (k : Int) - Int.toNat 0) (List.drop (Int.toNat 0) x.2.2.1), m) = some ((x.2.2.1.take k).any fun y => m.1 == y.1) := by
        have : List.take (Int.toNat (k : Int) - Int.toNat 0) (List.drop (Int.toNat 0) x.2.2.1) = x.2.2.1.take k := by simp
        rw [this]; exact ConL_eq _ _ (by rw [List.length_take]; omega)
      unfold scene_lights.t0
      dsimp only
      rw [tr_ite, decide_eq_true (by omega), if_pos rfl, tr_opt, lget_nat x.2.2.1 hlt, Option.bind_some, hm, tr_ite, hsl, if_pos rfl, tr_opt, hcon, Option.bind_some, tr_ite]
      unfold litW at hf
      split at hf
      · cases hf
      rename_i h0
      rw [if_neg h0, tr_opt, within3, Option.bind_some, tr_ite]
      split at hf
      · cases hf
      rename_i h1
      have h1 : in3 m.2 0 67108863 = true := nf h1
      rw [h1, if_neg (by simp), tr_ret, W_succ (by omega)])
    (fun k w _ hk hf => by
      have hlt : k < x.2.2.1.length := by omega
      unfold fL at hf
      rw [List.getElem?_eq_getElem hlt, Option.bind_some] at hf
      generalize hm : x.2.2.1[k] = m at hf
      have hb : scene_bound (3, W ((k : Int) + 1)) = some (mkErr (some (10, 3, ((k + 1 : Nat) : Int)))) := by rw [nn (by omega)]; exact bound_eq (by decide)
      have hb2 : scene_broken (2, W ((k : Int) + 1)) = some (mkErr (some (11, 2, ((k + 1 : Nat) : Int)))) := by rw [nn (by omega)]; exact broken_eq (by decide)
      have hsl : (decide ((0 : Int) ≤ 0) && decide ((0 : Int) ≤ (k : Int)) && decide ((k : Int) ≤ (x.2.2.1.length : Int))) = true := by
        rw [decide_eq_true (by omega), decide_eq_true (by omega), decide_eq_true (by omega)]; rfl
      have hcon : ConL (List.take (Int.toNat (k : Int) - Int.toNat 0) (List.drop (Int.toNat 0) x.2.2.1), m) = some ((x.2.2.1.take k).any fun y => m.1 == y.1) := by
        have : List.take (Int.toNat (k : Int) - Int.toNat 0) (List.drop (Int.toNat 0) x.2.2.1) = x.2.2.1.take k := by simp
        rw [this]; exact ConL_eq _ _ (by rw [List.length_take]; omega)
      unfold scene_lights.t0
      dsimp only
      rw [tr_ite, decide_eq_true (by omega), if_pos rfl, tr_opt, lget_nat x.2.2.1 hlt, Option.bind_some, hm, tr_ite, hsl, if_pos rfl, tr_opt, hcon, Option.bind_some, tr_ite]
      unfold litW at hf
      split at hf
      · rename_i h0
        cases hf
        rw [if_pos h0, tr_opt, hb2, Option.bind_some, tr_ret]
      rename_i h0
      rw [if_neg h0, tr_opt, within3, Option.bind_some, tr_ite]
      split at hf
      · rename_i h1
        cases hf
        rw [h1, if_pos (by simp), tr_opt, hb, Option.bind_some, tr_ret]
      · cases hf)
    (by
      rw [Nat.zero_add]
      unfold scene_lights.t0
      dsimp only
      rw [tr_ite, decide_eq_false (by omega), if_neg (by simp), tr_ret]) (rounds_gt (by omega))

theorem lights_eq (x : ScT) (hx : x.2.2.1.length ≤ 900) (hc : x.2.2.2.2.1.length ≤ 900) : scene_lights x = some (mkErr (orElse' (wL x) (wZ x))) := by
  have hb : scene_bound (3, 0) = some (mkErr (some (10, 3, 0))) := bound_eq (by decide)
  have hb2 : scene_broken (14, 0) = some (mkErr (some (11, 14, 0))) := broken_eq (by decide)
  unfold scene_lights scene_lights.t
  rw [tr_opt, lits_eq x hx, Option.bind_some]
  unfold wL
  cases hf : firstF (fL x) 0 x.2.2.1.length with
  | some p => rfl
  | none =>
    dsimp only
    rw [tr_ite, if_pos (by rfl), tr_ite, tr_opt, hb, Option.bind_some, tr_ret]
    show _ = some (mkErr (wZ x))
    unfold wZ
    by_cases h1 : decide (x.2.2.2.1 < 0) = true
    · rw [if_pos h1, if_pos h1]
    · rw [if_neg h1, if_neg h1, tr_ite, tr_opt, hb2, Option.bind_some, tr_ret]
      by_cases h2 : ((x.2.2.2.2.1.length : Int) != W (8 * x.2.2.2.1)) = true
      · rw [if_pos h2, if_pos h2]
      · rw [if_neg h2, if_neg h2, tr_opt, cells_eq x .nil hc, Option.bind_some]
        unfold wC
        cases hf : firstF (fC x) 0 x.2.2.2.2.1.length with
        | some p => rfl
        | none => rfl

theorem camera_eq (x : ScT) : scene_camera x = some (mkErr (camW x)) := by
  have hb : scene_bound (3, 0) = some (mkErr (some (10, 3, 0))) := bound_eq (by decide)
  have hb2 : scene_broken (13, 0) = some (mkErr (some (11, 13, 0))) := broken_eq (by decide)
  have hb3 : scene_broken (2, 0) = some (mkErr (some (11, 2, 0))) := broken_eq (by decide)
  unfold scene_camera scene_camera.t camW
  dsimp only
  rw [tr_opt, within3, Option.bind_some, tr_ite, tr_opt, hb, Option.bind_some, tr_ret]
  cases q1 : in3 x.2.2.2.2.2.1.1 (-1048576) 1048576
  · rw [if_pos (by rfl), if_pos (by rfl)]
  rw [if_neg (by simp), tr_opt, within3, Option.bind_some, tr_ite, tr_opt, Option.bind_some, tr_ret]
  cases q2 : in3 x.2.2.2.2.2.1.2.1 (-1048576) 1048576
  · rw [if_pos (by rfl), if_pos (by rfl)]
  rw [if_neg (by simp), tr_opt, within3, Option.bind_some, tr_ite, tr_opt, Option.bind_some, tr_ret]
  cases q3 : in3 x.2.2.2.2.2.1.2.2.1 (-1048576) 1048576
  · rw [if_pos (by rfl), if_pos (by rfl)]
  have hw2 : scene_within_1 (List.take 2 [x.2.2.2.2.2.1.2.2.2.1, x.2.2.2.2.2.1.2.2.2.2.2], 1, 1048576) = some (inB 1 1048576 [x.2.2.2.2.2.1.2.2.2.1, x.2.2.2.2.2.1.2.2.2.2.2]) := within_eq _ _ _ _ (by simp)
  have hi2 : inB 1 1048576 [x.2.2.2.2.2.1.2.2.2.1, x.2.2.2.2.2.1.2.2.2.2.2] = ((decide (1 ≤ x.2.2.2.2.2.1.2.2.2.1) && decide (x.2.2.2.2.2.1.2.2.2.1 ≤ 1048576)) && (decide (1 ≤ x.2.2.2.2.2.1.2.2.2.2.2) && decide (x.2.2.2.2.2.1.2.2.2.2.2 ≤ 1048576))) := by
    unfold inB; simp only [List.all_cons, List.all_nil, Bool.and_true]
  rw [if_neg (by simp), tr_opt, hw2, Option.bind_some, tr_ite, tr_opt, Option.bind_some, tr_ret, hi2]
  cases q4 : (decide (1 ≤ x.2.2.2.2.2.1.2.2.2.1) && decide (x.2.2.2.2.2.1.2.2.2.1 ≤ 1048576))
  · rw [if_pos (by rfl), if_pos (by rfl)]
  cases q5 : (decide (1 ≤ x.2.2.2.2.2.1.2.2.2.2.2) && decide (x.2.2.2.2.2.1.2.2.2.2.2 ≤ 1048576))
  · rw [if_pos (by rfl), if_pos (by rfl)]
  rw [if_neg (by simp), tr_opt, within1, Option.bind_some, tr_ite, tr_opt, Option.bind_some, tr_ret]
  cases q6 : (decide (0 ≤ x.2.2.2.2.2.1.2.2.2.2.1) && decide (x.2.2.2.2.2.1.2.2.2.2.1 ≤ 1048576))
  · rw [if_pos (by rfl), if_pos (by rfl)]
  rw [if_neg (by simp), if_neg (by simp), tr_ite, W_sub0, W_sub0, W_sub0, tr_opt, hb2, Option.bind_some, tr_ret]
  have hfl : (W (W (x.2.2.2.2.2.1.2.1.2.1 - x.2.2.2.2.2.1.1.2.1) * x.2.2.2.2.2.1.2.2.1.2.2) == W (W (x.2.2.2.2.2.1.2.1.2.2 - x.2.2.2.2.2.1.1.2.2) * x.2.2.2.2.2.1.2.2.1.2.1) && (W (W (x.2.2.2.2.2.1.2.1.2.2 - x.2.2.2.2.2.1.1.2.2) * x.2.2.2.2.2.1.2.2.1.1) == W (W (x.2.2.2.2.2.1.2.1.1 - x.2.2.2.2.2.1.1.1) * x.2.2.2.2.2.1.2.2.1.2.2) && W (W (x.2.2.2.2.2.1.2.1.1 - x.2.2.2.2.2.1.1.1) * x.2.2.2.2.2.1.2.2.1.2.1) == W (W (x.2.2.2.2.2.1.2.1.2.1 - x.2.2.2.2.2.1.1.2.1) * x.2.2.2.2.2.1.2.2.1.1))) = flatB (lessW x.2.2.2.2.2.1.2.1 x.2.2.2.2.2.1.1) x.2.2.2.2.2.1.2.2.1 := rfl
  rw [hfl]
  cases q7 : flatB (lessW x.2.2.2.2.2.1.2.1 x.2.2.2.2.2.1.1) x.2.2.2.2.2.1.2.2.1
  · rw [if_neg (by simp), if_neg (by simp), tr_ite, tr_opt, hb3, Option.bind_some, tr_ret]
    cases q8 : (x.2.2.2.2.2.2.1 != 1 && x.2.2.2.2.2.2.1 != 2)
    · rw [if_neg (by simp), if_neg (by simp), tr_opt, within1, Option.bind_some, tr_ite, tr_opt, Option.bind_some, tr_ret]
      cases q9 : (decide (1 ≤ x.2.2.2.2.2.2.2) && decide (x.2.2.2.2.2.2.2 ≤ 8192))
      · rw [if_pos (by rfl), if_pos (by rfl)]
      · rw [if_neg (by simp), if_neg (by simp)]; rfl
    · rw [if_pos (by rfl), if_pos (by rfl)]
  · rw [if_pos (by rfl), if_pos (by rfl)]

theorem mkErr_nil (w : Option W3) : (mkErr w).isNil = w.isNone := by cases w <;> rfl

theorem Check_eq (x : ScT) (h : lightB x) : scene_Check x = some (mkErr (wr x)) := by
  obtain ⟨h1, h2, h3, h4⟩ := h
  have hb : scene_bound (4, 0) = some (mkErr (some (10, 4, 0))) := bound_eq (by decide)
  have hm : scene_many x = some (mkErr (if bigB x = true then some (10, 4, 0) else none)) := by
    unfold scene_many scene_many.t
    rw [tr_ite, tr_opt, hb, Option.bind_some, tr_ret]
    show (if bigB x = true then _ else _) = _
    by_cases hbig : bigB x = true
    · rw [if_pos hbig, if_pos hbig]
    · rw [if_neg hbig, if_neg hbig]; rfl
  unfold scene_Check scene_Check.t wr
  rw [tr_opt, hm, Option.bind_some, tr_ite, mkErr_nil]
  by_cases hbig : bigB x = true
  · rw [if_pos hbig, if_pos (by rfl), tr_ret, if_pos hbig]
  · rw [if_neg hbig, if_neg (by simp), tr_opt, mats_eq x h1, Option.bind_some, tr_ite, mkErr_nil, if_neg hbig]
    cases e1 : wM x with
    | some w => rfl
    | none =>
      rw [if_neg (by simp), tr_opt, tris_eq x h2, Option.bind_some, tr_ite, mkErr_nil]
      cases e2 : wT x with
      | some w => rfl
      | none =>
        rw [if_neg (by simp), tr_opt, lights_eq x h3 h4, Option.bind_some, tr_ite, mkErr_nil]
        show _ = some (mkErr (orElse' (orElse' (wL x) (wZ x)) (camW x)))
        cases e3 : orElse' (wL x) (wZ x) with
        | some w => rw [if_pos (by rfl), tr_ret]; rfl
        | none => rw [if_neg (by simp), tr_opt, camera_eq, Option.bind_some, tr_ret]; rfl
end Go.Proofs.Pen

namespace Go.Proofs.Pen
open Go Go.Proofs

theorem tr_yes {α : Type} {b : Bool} {x y : T α} (h : b = true) : (T.ite b x y).run = x.run := by rw [tr_ite, if_pos h]
theorem tr_no {α : Type} {b : Bool} {x y : T α} (h : b = false) : (T.ite b x y).run = y.run := by rw [tr_ite, h, if_neg (by simp)]
theorem beqC (a b : Int) : (a == b) = (b == a) := by
  rw [Bool.eq_iff_iff, beq_iff_eq, beq_iff_eq]; exact eq_comm

theorem rmat_eq (m : MatT) (p : Int) : ref22_mat (m, p) = some (mkW (matW m p)) := by
  unfold ref22_mat ref22_mat.t
  show ((T.ite (decide (m.2.2 < 1) || decide (m.2.2 > 1024)) (T.ret (10, 3, p)) (T.ite (!(in3 m.1 0 9223372036854775807)) (T.ret (10, 3, p)) (T.ite (!(in3 m.2.1 0 9223372036854775807)) (T.ret (10, 3, p)) (T.ite (!(in3 m.1 0 1023) || decide (m.2.1.1 > W (1023 - m.1.1)) || decide (m.2.1.2.1 > W (1023 - m.1.2.1)) || decide (m.2.1.2.2 > W (1023 - m.1.2.2))) (T.ret (11, 4, p)) (T.ret (0, 0, 0)))))).run : Option W3) = _
  unfold matW
  rw [tr_ite, tr_ret, tr_ite, tr_ret, tr_ite, tr_ret, tr_ite, tr_ret, tr_ret]
  have e0 : (decide (m.2.2 < 1) || decide (m.2.2 > 1024)) = !(decide (1 ≤ m.2.2) && decide (m.2.2 ≤ 1024)) := by
    rw [Bool.eq_iff_iff]; first | (simp; done) | (simp; omega)
  rw [e0]
  cases q1 : (decide (1 ≤ m.2.2) && decide (m.2.2 ≤ 1024))
  · rfl
  cases q3 : in3 m.1 0 9223372036854775807
  · rfl
  cases q4 : in3 m.2.1 0 9223372036854775807
  · rfl
  simp only [Bool.not_true, Bool.false_eq_true, if_false, Bool.and_self, Bool.true_eq_false]
  obtain ⟨⟨a1, a2⟩, ⟨a3, a4⟩, a5, a6⟩ := in3_iff.1 q3
  obtain ⟨⟨b1, b2⟩, ⟨b3, b4⟩, b5, b6⟩ := in3_iff.1 q4
  have e : (!(in3 m.1 0 1023) || decide (m.2.1.1 > W (1023 - m.1.1)) || decide (m.2.1.2.1 > W (1023 - m.1.2.1)) || decide (m.2.1.2.2 > W (1023 - m.1.2.2))) = (over1 m.1.1 m.2.1.1 || over1 m.1.2.1 m.2.1.2.1 || over1 m.1.2.2 m.2.1.2.2) := by
    rw [W_id (by omega) (by omega), W_id (by omega) (by omega), W_id (by omega) (by omega), Bool.eq_iff_iff]
    unfold over1 in3
    simp only [Bool.or_eq_true, Bool.not_eq_true', Bool.and_eq_false_iff, decide_eq_true_eq, decide_eq_false_iff_not, ge_iff_le, gt_iff_lt]
    omega
  rw [e]
  cases (over1 m.1.1 m.2.1.1 || over1 m.1.2.1 m.2.1.2.1 || over1 m.1.2.2 m.2.1.2.2) <;> rfl

theorem rtri_eq (t : TriT) (nm p : Int) : ref22_tri (t, nm, p) = some (mkW (triW nm t p)) := by
  have hfl : (W (W (t.2.1.2.1 - t.1.2.1) * W (t.2.2.1.2.2 - t.1.2.2)) == W (W (t.2.1.2.2 - t.1.2.2) * W (t.2.2.1.2.1 - t.1.2.1)) && W (W (t.2.1.2.2 - t.1.2.2) * W (t.2.2.1.1 - t.1.1)) == W (W (t.2.1.1 - t.1.1) * W (t.2.2.1.2.2 - t.1.2.2)) && W (W (t.2.1.1 - t.1.1) * W (t.2.2.1.2.1 - t.1.2.1)) == W (W (t.2.1.2.1 - t.1.2.1) * W (t.2.2.1.1 - t.1.1))) = flatB (lessW t.2.1 t.1) (lessW t.2.2.1 t.1) := by
    rw [Bool.and_assoc]; rfl
  unfold ref22_tri ref22_tri.t
  dsimp only
  rw [hfl]
  show ((T.ite (decide (t.2.2.2 < 0) || decide (t.2.2.2 ≥ nm)) (T.ret (11, 2, p)) (T.ite (!(in3 t.1 (-1048576) 1048576)) (T.ret (10, 3, p)) (T.ite (!(in3 t.2.1 (-1048576) 1048576)) (T.ret (10, 3, p)) (T.ite (!(in3 t.2.2.1 (-1048576) 1048576)) (T.ret (10, 3, p)) (T.ite (flatB (lessW t.2.1 t.1) (lessW t.2.2.1 t.1)) (T.ret (11, 13, p)) (T.ret (0, 0, 0))))))).run : Option W3) = _
  unfold triW
  rw [tr_ite, tr_ret, tr_ite, tr_ret, tr_ite, tr_ret, tr_ite, tr_ret, tr_ite, tr_ret, tr_ret]
  cases (decide (t.2.2.2 < 0) || decide (t.2.2.2 ≥ nm)) <;> cases in3 t.1 (-1048576) 1048576 <;> cases in3 t.2.1 (-1048576) 1048576 <;> cases in3 t.2.2.1 (-1048576) 1048576 <;> cases flatB (lessW t.2.1 t.1) (lessW t.2.2.1 t.1) <;> rfl

theorem twice_eq (l : List LitT) (k : Nat) (nt : Int) (hk : k < l.length) (hl : l.length ≤ 900) : ∃ j, ref22_light.l0 (l, (k : Int), nt, (0, 0, 0), false, 0, ()) = some (.exit 0, l, (k : Int), nt, (0, 0, 0), (l.take k).any fun y => l[k].1 == y.1, j, ()) := by
  have := iter_count (t := ref22_light.t0) (fun i => ((l, (k : Int), nt, (0, 0, 0), (l.take i).any fun y => l[k].1 == y.1, (i : Int), ()) : List LitT × Int × Int × W3 × Bool × Int × Unit)) (e := .exit 0) (z := (l, (k : Int), nt, (0, 0, 0), (l.take k).any fun y => l[k].1 == y.1, (k : Int), ())) (by simp) k 0 rounds (fun i _ hi => ?_) ?_ (rounds_gt (by omega))
  · exact ⟨(k : Int), this⟩
  · have hlt : i < l.length := by omega
    have hs : ((l.take (i + 1)).any fun y => l[k].1 == y.1) = (((l.take i).any fun y => l[k].1 == y.1) || (l[i].1 == l[k].1)) := by
      rw [List.take_succ_eq_append_getElem hlt, List.any_append, beqC l[i].1]; simp
    unfold ref22_light.t0
    dsimp only
    rw [tr_ite, decide_eq_true (by omega), if_pos rfl, tr_ite, hs, tr_opt, lget_nat l hlt, Option.bind_some, tr_opt, lget_nat l hk, Option.bind_some, tr_ret, tr_ret, W_succ (by omega)]
    cases (l.take i).any fun y => l[k].1 == y.1
    · rw [if_neg (by simp), Bool.false_or]
    · rw [if_pos rfl, Bool.true_or]
  · rw [Nat.zero_add]
    unfold ref22_light.t0
    dsimp only
    rw [tr_ite, decide_eq_false (by omega), if_neg (by simp), tr_ret]

theorem rlit_eq (l : List LitT) (k : Nat) (nt : Int) (hk : k < l.length) (hl : l.length ≤ 900) : ref22_light (l, (k : Int), nt) = some (mkW (litW nt (l.take k) l[k] ((k + 1 : Nat) : Int))) := by
  obtain ⟨j, hj⟩ := twice_eq l k nt hk hl
  unfold ref22_light ref22_light.t
  dsimp only
  rw [tr_opt, hj, Option.bind_some, tr_ite, if_pos (by rfl), tr_opt]
  dsimp only
  rw [lget_nat l hk, Option.bind_some, tr_ite, W_succ (by omega), tr_ret, tr_opt, Option.bind_some, tr_ite, tr_ret, tr_opt, Option.bind_some, tr_ite, tr_ret, tr_ret]
  unfold litW
  have hin : (decide (l[k].2.1 ≥ 0) && decide (l[k].2.1 ≤ 67108863) && decide (l[k].2.2.1 ≥ 0) && decide (l[k].2.2.1 ≤ 67108863) && decide (l[k].2.2.2 ≥ 0) && decide (l[k].2.2.2 ≤ 67108863)) = in3 l[k].2 0 67108863 := rfl
  rw [hin]
  cases decide (l[k].1 < 0) <;> cases decide (l[k].1 ≥ nt) <;> cases ((l.take k).any fun y => l[k].1 == y.1) <;> cases in3 l[k].2 0 67108863 <;> rfl

theorem rcells_eq (x : ScT) (hx : x.2.2.2.2.1.length ≤ 900) : ref22_rest.l0 (x, (0, 0, 0), 0, ()) =
    some (match firstF (fC x) 0 x.2.2.2.2.1.length with | some (i, w) => (.ret, x, w, (i : Int), ()) | none => (.exit 0, x, (0, 0, 0), (x.2.2.2.2.1.length : Int), ())) :=
  iter_first (t := ref22_rest.t0) (fun k => (x, (0, 0, 0), (k : Int), ())) (fC x) (fun k w => (x, w, (k : Int), ())) (e := .exit 0) (z := (x, (0, 0, 0), (x.2.2.2.2.1.length : Int), ())) (by simp) x.2.2.2.2.1.length 0 rounds
    (fun k _ hk hf => by
      have hlt : k < x.2.2.2.2.1.length := by omega
      unfold fC at hf
      rw [List.getElem?_eq_getElem hlt, Option.bind_some] at hf
      generalize hm : x.2.2.2.2.1[k] = m at hf
      unfold celW at hf
      split at hf
      · cases hf
      rename_i h1
      have h1 : (decide (m.1 ≥ 0) && decide (m.1 ≤ 67108863) && decide (m.2.1 ≥ 0) && decide (m.2.1 ≤ 67108863) && decide (m.2.2 ≥ 0) && decide (m.2.2 ≤ 67108863)) = true := by
        have : in3 m 0 67108863 = true := by simpa using h1
        exact this
      unfold ref22_rest.t0
      dsimp only
      rw [tr_ite, decide_eq_true (by omega), if_pos rfl, tr_opt, lget_nat x.2.2.2.2.1 hlt, Option.bind_some, hm, tr_ite, h1, if_neg (by simp), tr_ret, W_succ (by omega)])
    (fun k w _ hk hf => by
      have hlt : k < x.2.2.2.2.1.length := by omega
      unfold fC at hf
      rw [List.getElem?_eq_getElem hlt, Option.bind_some] at hf
      generalize hm : x.2.2.2.2.1[k] = m at hf
      unfold celW at hf
      split at hf
      · rename_i h1
        cases hf
        have h1 : (decide (m.1 ≥ 0) && decide (m.1 ≤ 67108863) && decide (m.2.1 ≥ 0) && decide (m.2.1 ≤ 67108863) && decide (m.2.2 ≥ 0) && decide (m.2.2 ≤ 67108863)) = false := h1
        unfold ref22_rest.t0
        dsimp only
        rw [tr_ite, decide_eq_true (by omega), if_pos rfl, tr_opt, lget_nat x.2.2.2.2.1 hlt, Option.bind_some, hm, tr_ite, h1, if_pos (by rfl), tr_ret, nn (by omega)]
      · cases hf)
    (by
      rw [Nat.zero_add]
      unfold ref22_rest.t0
      dsimp only
      rw [tr_ite, decide_eq_false (by omega), if_neg (by simp), tr_ret]) (rounds_gt (by omega))

theorem bor_false {a b : Bool} (h : (a && b) = true) : a = true ∧ b = true := by simpa using h

theorem W_sub_zero {a : Int} (h1 : -1048576 ≤ a) (h2 : a ≤ 1048576) : W (a - 0) = a := by rw [Int.sub_zero]; exact W_id (by omega) (by omega)

theorem rest_eq (x : ScT) (hx : x.2.2.2.2.1.length ≤ 900) : ref22_rest x = some (mkW (orElse' (wZ x) (camW x))) := by
  unfold ref22_rest ref22_rest.t wZ
  rw [tr_ite, tr_ret]
  by_cases h1 : decide (x.2.2.2.1 < 0) = true
  · rw [if_pos h1, if_pos h1]; rfl
  rw [if_neg h1, if_neg h1, tr_ite, tr_ret]
  by_cases h2 : ((x.2.2.2.2.1.length : Int) != W (8 * x.2.2.2.1)) = true
  · rw [if_pos h2, if_pos h2]; rfl
  rw [if_neg h2, if_neg h2, tr_opt, rcells_eq x hx, Option.bind_some]
  unfold wC
  cases hf : firstF (fC x) 0 x.2.2.2.2.1.length with
  | some p => rfl
  | none =>
    dsimp only
    rw [tr_ite, if_pos (by rfl)]
    show _ = some (mkW (camW x))
    unfold camW
    dsimp only
    generalize hc : x.2.2.2.2.2.1 = c
    have e1 : (decide (c.1.1 ≥ -1048576) && decide (c.1.1 ≤ 1048576) && decide (c.1.2.1 ≥ -1048576) && decide (c.1.2.1 ≤ 1048576) && decide (c.1.2.2 ≥ -1048576) && decide (c.1.2.2 ≤ 1048576)) = in3 c.1 (-1048576) 1048576 := rfl
    have e2 : (decide (c.2.1.1 ≥ -1048576) && decide (c.2.1.1 ≤ 1048576) && decide (c.2.1.2.1 ≥ -1048576) && decide (c.2.1.2.1 ≤ 1048576) && decide (c.2.1.2.2 ≥ -1048576) && decide (c.2.1.2.2 ≤ 1048576)) = in3 c.2.1 (-1048576) 1048576 := rfl
    have e3 : (decide (c.2.2.1.1 ≥ -1048576) && decide (c.2.2.1.1 ≤ 1048576) && decide (c.2.2.1.2.1 ≥ -1048576) && decide (c.2.2.1.2.1 ≤ 1048576) && decide (c.2.2.1.2.2 ≥ -1048576) && decide (c.2.2.1.2.2 ≤ 1048576)) = in3 c.2.2.1 (-1048576) 1048576 := rfl
    rw [e1, e2, e3, tr_ite, tr_ret, tr_ite, tr_ret, tr_ite, tr_ret, tr_ite, tr_ret, tr_ite, tr_ret, tr_ite, tr_ret, tr_ret]
    cases q1 : in3 c.1 (-1048576) 1048576
    · rfl
    cases q2 : in3 c.2.1 (-1048576) 1048576
    · rfl
    cases q3 : in3 c.2.2.1 (-1048576) 1048576
    · rfl
    have e4 : (!true || decide (c.2.2.2.1 < 1) || decide (c.2.2.2.1 > 1048576) || decide (c.2.2.2.2.1 < 0) || decide (c.2.2.2.2.1 > 1048576) || decide (c.2.2.2.2.2 < 1) || decide (c.2.2.2.2.2 > 1048576)) =
        !(true && true && true && (decide (1 ≤ c.2.2.2.1) && decide (c.2.2.2.1 ≤ 1048576)) && (decide (1 ≤ c.2.2.2.2.2) && decide (c.2.2.2.2.2 ≤ 1048576)) && (decide (0 ≤ c.2.2.2.2.1) && decide (c.2.2.2.2.1 ≤ 1048576))) := by
      rw [Bool.eq_iff_iff]; first | (simp; done) | (simp; omega)
    rw [e4]
    cases (true && true && true && (decide (1 ≤ c.2.2.2.1) && decide (c.2.2.2.1 ≤ 1048576)) && (decide (1 ≤ c.2.2.2.2.2) && decide (c.2.2.2.2.2 ≤ 1048576)) && (decide (0 ≤ c.2.2.2.2.1) && decide (c.2.2.2.2.1 ≤ 1048576)))
    · rfl
    simp only [Bool.not_true, Bool.false_eq_true, if_false, Bool.true_eq_false]
    obtain ⟨⟨a1, a2⟩, ⟨a3, a4⟩, a5, a6⟩ := in3_iff.1 q3
    have e5 : (W (W (c.2.1.2.1 - c.1.2.1) * W (c.2.2.1.2.2 - 0)) == W (W (c.2.1.2.2 - c.1.2.2) * W (c.2.2.1.2.1 - 0)) && W (W (c.2.1.2.2 - c.1.2.2) * W (c.2.2.1.1 - 0)) == W (W (c.2.1.1 - c.1.1) * W (c.2.2.1.2.2 - 0)) && W (W (c.2.1.1 - c.1.1) * W (c.2.2.1.2.1 - 0)) == W (W (c.2.1.2.1 - c.1.2.1) * W (c.2.2.1.1 - 0))) = flatB (lessW c.2.1 c.1) c.2.2.1 := by
      rw [W_sub_zero a1 a2, W_sub_zero a3 a4, W_sub_zero a5 a6, Bool.and_assoc]; rfl
    rw [e5]
    have e6 : (decide (x.2.2.2.2.2.2.2 < 1) || decide (x.2.2.2.2.2.2.2 > 8192)) = !(decide (1 ≤ x.2.2.2.2.2.2.2) && decide (x.2.2.2.2.2.2.2 ≤ 8192)) := by
      rw [Bool.eq_iff_iff]; first | (simp; done) | (simp; omega)
    rw [e6]
    cases flatB (lessW c.2.1 c.1) c.2.2.1 <;> cases (x.2.2.2.2.2.2.1 != 1 && x.2.2.2.2.2.2.1 != 2) <;> cases (decide (1 ≤ x.2.2.2.2.2.2.2) && decide (x.2.2.2.2.2.2.2 ≤ 8192)) <;> rfl

/-! Each fault has a code. -/
def codeOK (w : W3) : Prop := (w.1 = 10 ∨ w.1 = 11) ∧ ¬ (w.2.1 = 0)
theorem matW_ok {m : MatT} {p : Int} {w : W3} (h : matW m p = some w) : codeOK w := by
  unfold matW at h
  split at h
  · cases h; exact ⟨.inl rfl, by simp⟩
  · split at h
    · cases h; exact ⟨.inr rfl, by simp⟩
    · cases h
theorem triW_ok {n : Int} {m : TriT} {p : Int} {w : W3} (h : triW n m p = some w) : codeOK w := by
  unfold triW at h
  split at h
  · cases h; exact ⟨.inr rfl, by simp⟩
  · split at h
    · cases h; exact ⟨.inl rfl, by simp⟩
    · split at h
      · cases h; exact ⟨.inr rfl, by simp⟩
      · cases h
theorem litW_ok {n : Int} {a : List LitT} {m : LitT} {p : Int} {w : W3} (h : litW n a m p = some w) : codeOK w := by
  unfold litW at h
  split at h
  · cases h; exact ⟨.inr rfl, by simp⟩
  · split at h
    · cases h; exact ⟨.inl rfl, by simp⟩
    · cases h
theorem celW_ok {m : W3} {p : Int} {w : W3} (h : celW m p = some w) : codeOK w := by
  unfold celW at h
  split at h
  · cases h; exact ⟨.inl rfl, by simp⟩
  · cases h
theorem camW_ok {x : ScT} {w : W3} (h : camW x = some w) : codeOK w := by
  unfold camW at h
  dsimp only at h
  split at h
  · cases h; exact ⟨.inl rfl, by simp⟩
  · split at h
    · cases h; exact ⟨.inr rfl, by simp⟩
    · split at h
      · cases h; exact ⟨.inr rfl, by simp⟩
      · split at h
        · cases h; exact ⟨.inl rfl, by simp⟩
        · cases h

theorem codeOK.zero {w : W3} (h : codeOK w) : (w.1 == 0 && (w.2.1 == 0 && w.2.2 == 0)) = false := by
  obtain ⟨h1 | h1, _⟩ := h <;> rw [h1] <;> rfl

theorem codeOK.go {w : W3} (h : codeOK w) : (!((mkW (some w)).1 == 0 && ((mkW (some w)).2.1 == 0 && (mkW (some w)).2.2 == 0))) = true := by
  have := h.zero
  show (!(w.1 == 0 && (w.2.1 == 0 && w.2.2 == 0))) = true
  rw [this]; rfl

theorem fM_ok {x : ScT} {k : Nat} {w : W3} (h : fM x k = some w) : codeOK w := by
  unfold fM at h; rw [Option.bind_eq_some_iff] at h; obtain ⟨m, _, h⟩ := h; exact matW_ok h
theorem fT_ok {x : ScT} {k : Nat} {w : W3} (h : fT x k = some w) : codeOK w := by
  unfold fT at h; rw [Option.bind_eq_some_iff] at h; obtain ⟨m, _, h⟩ := h; exact triW_ok h
theorem fL_ok {x : ScT} {k : Nat} {w : W3} (h : fL x k = some w) : codeOK w := by
  unfold fL at h; rw [Option.bind_eq_some_iff] at h; obtain ⟨m, _, h⟩ := h; exact litW_ok h
theorem fC_ok {x : ScT} {k : Nat} {w : W3} (h : fC x k = some w) : codeOK w := by
  unfold fC at h; rw [Option.bind_eq_some_iff] at h; obtain ⟨m, _, h⟩ := h; exact celW_ok h

theorem first_ok {f : Nat → Option W3} {n : Nat} {w : W3} (hf : ∀ {k w}, f k = some w → codeOK w) (h : (firstF f 0 n).map (·.2) = some w) : codeOK w := by
  rw [Option.map_eq_some_iff] at h
  obtain ⟨⟨i, v⟩, h1, rfl⟩ := h
  exact hf (firstF_some h1).2.2

theorem wr_ok {x : ScT} {w : W3} (h : wr x = some w) : codeOK w := by
  unfold wr at h
  split at h
  · cases h; exact ⟨.inl rfl, by simp⟩
  have ho : ∀ {a b : Option W3}, orElse' a b = some w → a = some w ∨ b = some w := by
    intro a b h; cases a with
    | some v => exact .inl h
    | none => exact .inr h
  rcases ho h with h | h
  · exact first_ok fM_ok h
  rcases ho h with h | h
  · exact first_ok fT_ok h
  rcases ho h with h | h
  · rcases ho h with h | h
    · exact first_ok fL_ok h
    · unfold wZ at h
      split at h
      · cases h; exact ⟨.inl rfl, by simp⟩
      · split at h
        · cases h; exact ⟨.inr rfl, by simp⟩
        · exact first_ok fC_ok h
  · exact camW_ok h

theorem rmats (x : ScT) (hx : x.1.length ≤ 900) : ref22_Check.l0 (x, (0, 0, 0), 0, ()) =
    some (match firstF (fM x) 0 x.1.length with | some (i, w) => (.ret, x, w, (i : Int), ()) | none => (.exit 0, x, (0, 0, 0), (x.1.length : Int), ())) :=
  iter_first (t := ref22_Check.t0) (fun k => (x, (0, 0, 0), (k : Int), ())) (fM x) (fun k w => (x, w, (k : Int), ())) (e := .exit 0) (z := (x, (0, 0, 0), (x.1.length : Int), ())) (by simp) x.1.length 0 rounds
    (fun k _ hk hf => by
      have hlt : k < x.1.length := by omega
      unfold fM at hf
      rw [List.getElem?_eq_getElem hlt, Option.bind_some] at hf
      unfold ref22_Check.t0
      dsimp only
      rw [tr_ite, decide_eq_true (by omega), if_pos rfl, tr_opt, lget_nat x.1 hlt, Option.bind_some, nn (by omega), tr_opt, rmat_eq, hf, Option.bind_some, tr_ite, if_neg (by simp [mkW]), tr_ret])
    (fun k w _ hk hf => by
      have hlt : k < x.1.length := by omega
      have hok := fM_ok hf
      unfold fM at hf
      rw [List.getElem?_eq_getElem hlt, Option.bind_some] at hf
      unfold ref22_Check.t0
      dsimp only
      rw [tr_ite, decide_eq_true (by omega), if_pos rfl, tr_opt, lget_nat x.1 hlt, Option.bind_some, nn (by omega), tr_opt, rmat_eq, hf, Option.bind_some, tr_ite, if_pos (hok.go)]; rfl)
    (by
      rw [Nat.zero_add]
      unfold ref22_Check.t0
      dsimp only
      rw [tr_ite, decide_eq_false (by omega), if_neg (by simp), tr_ret]) (rounds_gt (by omega))

theorem rtris (x : ScT) (hx : x.2.1.length ≤ 900) : ref22_Check.l2 (x, (0, 0, 0), 0, ()) =
    some (match firstF (fT x) 0 x.2.1.length with | some (i, w) => (.ret, x, w, (i : Int), ()) | none => (.exit 2, x, (0, 0, 0), (x.2.1.length : Int), ())) :=
  iter_first (t := ref22_Check.t2) (fun k => (x, (0, 0, 0), (k : Int), ())) (fT x) (fun k w => (x, w, (k : Int), ())) (e := .exit 2) (z := (x, (0, 0, 0), (x.2.1.length : Int), ())) (by simp) x.2.1.length 0 rounds
    (fun k _ hk hf => by
      have hlt : k < x.2.1.length := by omega
      unfold fT at hf
      rw [List.getElem?_eq_getElem hlt, Option.bind_some] at hf
      unfold ref22_Check.t2
      dsimp only
      rw [tr_ite, decide_eq_true (by omega), if_pos rfl, tr_opt, lget_nat x.2.1 hlt, Option.bind_some, nn (by omega), tr_opt, rtri_eq, hf, Option.bind_some, tr_ite, if_neg (by simp [mkW]), tr_ret])
    (fun k w _ hk hf => by
      have hlt : k < x.2.1.length := by omega
      have hok := fT_ok hf
      unfold fT at hf
      rw [List.getElem?_eq_getElem hlt, Option.bind_some] at hf
      unfold ref22_Check.t2
      dsimp only
      rw [tr_ite, decide_eq_true (by omega), if_pos rfl, tr_opt, lget_nat x.2.1 hlt, Option.bind_some, nn (by omega), tr_opt, rtri_eq, hf, Option.bind_some, tr_ite, if_pos (hok.go)]; rfl)
    (by
      rw [Nat.zero_add]
      unfold ref22_Check.t2
      dsimp only
      rw [tr_ite, decide_eq_false (by omega), if_neg (by simp), tr_ret]) (rounds_gt (by omega))

theorem rlits (x : ScT) (hx : x.2.2.1.length ≤ 900) : ref22_Check.l4 (x, (0, 0, 0), 0, ()) =
    some (match firstF (fL x) 0 x.2.2.1.length with | some (i, w) => (.ret, x, w, (i : Int), ()) | none => (.exit 4, x, (0, 0, 0), (x.2.2.1.length : Int), ())) :=
  iter_first (t := ref22_Check.t4) (fun k => (x, (0, 0, 0), (k : Int), ())) (fL x) (fun k w => (x, w, (k : Int), ())) (e := .exit 4) (z := (x, (0, 0, 0), (x.2.2.1.length : Int), ())) (by simp) x.2.2.1.length 0 rounds
    (fun k _ hk hf => by
      have hlt : k < x.2.2.1.length := by omega
      unfold fL at hf
      rw [List.getElem?_eq_getElem hlt, Option.bind_some] at hf
      unfold ref22_Check.t4
      dsimp only
      rw [tr_ite, decide_eq_true (by omega), if_pos rfl, tr_opt, rlit_eq _ _ _ hlt hx, hf, Option.bind_some, tr_ite, if_neg (by simp [mkW]), tr_ret, W_succ (by omega)])
    (fun k w _ hk hf => by
      have hlt : k < x.2.2.1.length := by omega
      have hok := fL_ok hf
      unfold fL at hf
      rw [List.getElem?_eq_getElem hlt, Option.bind_some] at hf
      unfold ref22_Check.t4
      dsimp only
      rw [tr_ite, decide_eq_true (by omega), if_pos rfl, tr_opt, rlit_eq _ _ _ hlt hx, hf, Option.bind_some, tr_ite, if_pos (hok.go)]; rfl)
    (by
      rw [Nat.zero_add]
      unfold ref22_Check.t4
      dsimp only
      rw [tr_ite, decide_eq_false (by omega), if_neg (by simp), tr_ret]) (rounds_gt (by omega))

theorem RCheck_eq (x : ScT) (h : lightB x) : ref22_Check x = some (mkW (wr x)) := by
  obtain ⟨h1, h2, h3, h4⟩ := h
  unfold ref22_Check ref22_Check.t wr
  rw [tr_ite, tr_ret]
  have hbb : (decide ((x.1.length : Int) > 32) || decide ((x.2.1.length : Int) > 512) || decide ((x.2.2.1.length : Int) > 512) || decide (x.2.2.2.1 > 16)) = bigB x := rfl
  rw [hbb]
  by_cases hbig : bigB x = true
  · rw [if_pos hbig, if_pos hbig]; rfl
  rw [if_neg hbig, if_neg hbig, tr_opt, rmats x h1, Option.bind_some]
  unfold wM
  cases e1 : firstF (fM x) 0 x.1.length with
  | some p => rfl
  | none =>
    dsimp only
    rw [tr_ite, if_pos (by rfl), tr_opt, rtris x h2, Option.bind_some]
    unfold wT
    cases e2 : firstF (fT x) 0 x.2.1.length with
    | some p => rfl
    | none =>
      dsimp only
      rw [tr_ite, if_pos (by rfl), tr_opt, rlits x h3, Option.bind_some]
      unfold wL
      cases e3 : firstF (fL x) 0 x.2.2.1.length with
      | some p => rfl
      | none =>
        dsimp only
        rw [tr_ite, if_pos (by rfl), tr_opt, rest_eq x h4, Option.bind_some, tr_ret]
        rfl

theorem mkErr_mkR (w : W3) : mkErr (some w) = mkR [(w.1, 0), (w.2.1, w.2.2)] := rfl
end Go.Proofs.Pen
