/- A part of the proof that the law ImageBits is true of every input: an evaluator of the program and its proof. -/
import Derived.Test.YtfkgoljaeggbmabPenKit0
import Derived.Test.YtfkgoljaeggbmabPenKit1
import Derived.Test.YtfkgoljaeggbmabPenKit2
import Derived.Test.YtfkgoljaeggbmabPenImageBits3
namespace Go.Proofs.Pen
open Go RowKit

/-! ### Calls without unknown data: carried out -/
def noS : Nat → Option (St → T (Ex × St)) := fun _ => none
def D1 (P : Program) : Nat → Bool := callable P

def peCall (P : Program) (X : Nat → List AV → T AV) (F : Fns) (g : Nat) (l : List AV) : T AV :=
  match P.funcs[g]? with
  | some fn => if callable P g && Nat.ble l.length fn.ntmps then runFn P F (D1 P) noS fn l else X g l
  | none => .fail
def peDeep (P : Program) (F : Fns) (g : Nat) (l : List AV) (own : List Blk) : T (AV × List Blk) :=
  match P.funcs[g]? with
  | some fn => if callable P g && Nat.ble l.length fn.ntmps then runBody P F (D1 P) noS fn l own else .fail
  | none => .fail
def pe (P : Program) (X : Nat → List AV → T AV) (fuel : Nat) : Nat → Fns
  | 0 => { quiet := X, deep := noDeep, fuel := fuel }
  | d + 1 => { quiet := peCall P X (pe P X fuel d), deep := peDeep P (pe P X fuel d), fuel := fuel, closed := true }

section
variable {P : Program}

theorem pe_ok (hm : P.follows .mixedOrders = true) {X : Nat → List AV → T AV} (hX : QuietOK P X) (fuel : Nat) : ∀ d, QuietOK P (pe P X fuel d).quiet ∧ DeepOK P (pe P X fuel d).deep
  | 0 => ⟨hX, deep_none P⟩
  | d + 1 => by
    obtain ⟨hF, hD⟩ := pe_ok hm hX fuel d
    constructor
    · intro g args v h
      have h : (peCall P X (pe P X fuel d) g args).run = some v := h
      unfold peCall at h
      split at h
      · rename_i fn hfn
        split at h
        · rename_i hc
          simp only [Bool.and_eq_true] at hc
          exact .inl ⟨hc.1, fun r w us hι hp hl => fn_sound hm hF hD hfn (fun c _ => sok_none P 0 c) h (Nat.le_of_ble_eq_true hc.2) r w us hι hp hl⟩
        · exact hX g args v h
      · exact (run_fail h).elim
    · intro g args own v own' h
      have h : (peDeep P (pe P X fuel d) g args own).run = some (v, own') := h
      unfold peDeep at h
      split at h
      · rename_i fn hfn
        split at h
        · rename_i hc
          simp only [Bool.and_eq_true] at hc
          exact ⟨hc.1, fun w0 M r w us hR hl => body_sound hm hF hD hfn (fun c _ => sok_none P _ c) h hR hl (Nat.le_of_ble_eq_true hc.2)⟩
        · exact (run_fail h).elim
      · exact (run_fail h).elim

/-- A call without arguments that comes to one value. -/
theorem pe_entry (hm : P.follows .mixedOrders = true) {X : Nat → List AV → T AV} (hX : QuietOK P X) (fuel d : Nat) {g : FuncId} {fn : Func} (hfn : P.funcs[g]? = some fn) (hc : callable P g = true) {rs : List Ty} {y : dens rs} (h : (runT P (pe P X fuel d) (D1 P) noS fn [] (decR rs)).force.run = some y) :
    FnOK P g (entry [] (outR rs) fun _ => .ret y) := by
  obtain ⟨hF, hD⟩ := pe_ok hm hX fuel d
  refine entry_ok hm hF hD (F := pe P X fuel d) (D := D1 P) (S := noS) hfn hc (fun c _ => sok_none P 0 c) (fun r v y u => decR_rel) rfl fun x z hz => ?_
  cases run_ret hz
  exact force_run h


/-! ### The library's own functions -/
def typeOfAV (rt gs : Nat) (args : List AV) : T AV :=
  match args with
  | [.ifc t _] => .ret (.ifc rt (.agg [.hnd gs t]))
  | [.nili] => .ret .nili
  | _ => .fail
theorem typeOf_ok {g rt gs : Nat} (h : ∀ t v w, (callFunc g #[.iface t v]).run P w = .ok (.value (.iface rt (.agg #[.pointer (some ⟨gs, t, none⟩)]))) w) (h0 : ∀ w, (callFunc g #[.nilIface]).run P w = .ok (.value .nilIface) w) : ExOK P g (typeOfAV rt gs) := by
  intro args v hv r w us hl
  unfold typeOfAV at hv
  split at hv
  · rename_i t x
    cases run_ret hv
    simp only [LRel, VRel] at hl
    obtain ⟨u, ws, rfl, ⟨y, rfl, _⟩, rfl⟩ := hl
    refine ⟨_, h t y w, ?_⟩
    simp only [VRel, LRel]
    exact ⟨_, rfl, [.pointer (some ⟨gs, t, none⟩)], rfl, _, _, rfl, rfl, rfl⟩
  · cases run_ret hv
    simp only [LRel, VRel] at hl
    obtain ⟨u, ws, rfl, rfl, rfl⟩ := hl
    exact ⟨_, h0 w, by simp only [VRel]⟩
  · exact (run_fail hv).elim

def comparableAV (gs : Nat) (ts : List Nat) (args : List AV) : T AV :=
  match args with
  | [.agg [.hnd b t]] => if b = gs ∧ t ∈ ts then .ret .tt else .fail
  | _ => .fail
theorem comparable_ok {g gs : Nat} {ts : List Nat} (h : ∀ t, t ∈ ts → ∀ w, (callFunc g #[.agg #[.pointer (some ⟨gs, t, none⟩)]]).run P w = .ok (.value (.bool true)) w) : ExOK P g (comparableAV gs ts) := by
  intro args v hv r w us hl
  unfold comparableAV at hv
  split at hv
  · rename_i b t
    split at hv
    · rename_i hc
      cases run_ret hv
      simp only [LRel, VRel] at hl
      obtain ⟨u, ws, rfl, ⟨vs, rfl, y, zs, rfl, rfl, rfl⟩, rfl⟩ := hl
      obtain ⟨rfl, hc⟩ := hc
      exact ⟨_, h t hc w, by simp only [VRel]⟩
    · exact (run_fail hv).elim
  · exact (run_fail hv).elim

def bitsAV (args : List AV) : T AV :=
  match args with
  | [.fl o] => .opt o fun b => .ret (.it .u64 b)
  | _ => .fail
theorem bits_ok {g : Nat} (h : ∀ b w, (callFunc g #[.float .f64 b]).run P w = .ok (.value (.int .u64 b)) w) : ExOK P g bitsAV := by
  intro args v hv r w us hl
  unfold bitsAV at hv
  split at hv
  · rename_i o
    obtain ⟨b, rfl, hv⟩ := run_opt hv
    cases run_ret hv
    simp only [LRel, VRel, FRel] at hl
    obtain ⟨u, ws, rfl, rfl, rfl⟩ := hl
    exact ⟨_, h b w, by simp only [VRel]⟩
  · exact (run_fail hv).elim

def fromBitsAV (args : List AV) : T AV :=
  match args with
  | [.it .u64 n] => .ret (.fl (some n.toNat))
  | _ => .fail
theorem fromBits_ok {g : Nat} (h : ∀ n w, (callFunc g #[.int .u64 n]).run P w = .ok (.value (.float .f64 n.toNat)) w) : ExOK P g fromBitsAV := by
  intro args v hv r w us hl
  unfold fromBitsAV at hv
  split at hv
  · rename_i n
    cases run_ret hv
    simp only [LRel, VRel] at hl
    obtain ⟨u, ws, rfl, rfl, rfl⟩ := hl
    exact ⟨_, h n w, by simp only [VRel, FRel]⟩
  · exact (run_fail hv).elim

end
end Go.Proofs.Pen
