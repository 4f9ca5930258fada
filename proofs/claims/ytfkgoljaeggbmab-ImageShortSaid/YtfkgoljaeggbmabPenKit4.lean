/- A part of the proof that the law ImageShort is true of every input: an evaluator of the program and its proof. -/
import Derived.Test.YtfkgoljaeggbmabPenKit0
import Derived.Test.YtfkgoljaeggbmabPenKit1
import Derived.Test.YtfkgoljaeggbmabPenKit2
import Derived.Test.YtfkgoljaeggbmabPenImageShort3
namespace Go.Proofs.Pen
open Go RowKit

/-! ### Calls without unknown data: carried out -/
def noS : Nat → Option (St → T (Ex × St)) := fun _ => none
def D1 (P : Program) : Nat → Bool := callable P

def peCall (P : Program) (X : Nat → List AV → T AV) (F : Fns) (g : Nat) (l : List AV) : T AV :=
  match P.funcs[g]? with
  | some fn => if callable P g && Nat.ble l.length fn.ntmps then runFn P F (D1 P) noS fn l else X g l
  | none => .fail
def peDeep (P : Program) (F : Fns) (g : Nat) (l : List AV) (own : List Blk) : T (AV × List Blk) :=
  match P.funcs[g]? with
  | some fn => if callable P g && Nat.ble l.length fn.ntmps then runBody P F (D1 P) noS fn l own else .fail
  | none => .fail
def pe (P : Program) (X : Nat → List AV → T AV) (fuel : Nat) : Nat → Fns
  | 0 => { quiet := X, deep := noDeep, fuel := fuel }
  | d + 1 => { quiet := peCall P X (pe P X fuel d), deep := peDeep P (pe P X fuel d), fuel := fuel, closed := true }

section
variable {P : Program}

theorem pe_ok (hm : P.follows .mixedOrders = true) {X : Nat → List AV → T AV} (hX : QuietOK P X) (fuel : Nat) : ∀ d, QuietOK P (pe P X fuel d).quiet ∧ DeepOK P (pe P X fuel d).deep
  | 0 => ⟨hX, deep_none P⟩
  | d + 1 => by
    obtain ⟨hF, hD⟩ := pe_ok hm hX fuel d
    constructor
    · intro g args v h
      have h : (peCall P X (pe P X fuel d) g args).run = some v := h
      unfold peCall at h
      split at h
      · rename_i fn hfn
        split at h
        · rename_i hc
          simp only [Bool.and_eq_true] at hc
          exact .inl ⟨hc.1, fun r w us hι hp hl => fn_sound hm hF hD hfn (fun c _ => sok_none P 0 c) h (Nat.le_of_ble_eq_true hc.2) r w us hι hp hl⟩
        · exact hX g args v h
      · exact (run_fail h).elim
    · intro g args own v own' h
      have h : (peDeep P (pe P X fuel d) g args own).run = some (v, own') := h
      unfold peDeep at h
      split at h
      · rename_i fn hfn
        split at h
        · rename_i hc
          simp only [Bool.and_eq_true] at hc
          exact ⟨hc.1, fun w0 M r w us hR hl => body_sound hm hF hD hfn (fun c _ => sok_none P _ c) h hR hl (Nat.le_of_ble_eq_true hc.2)⟩
        · exact (run_fail h).elim
      · exact (run_fail h).elim

/-- A call without arguments that comes to one value. -/
theorem pe_entry (hm : P.follows .mixedOrders = true) {X : Nat → List AV → T AV} (hX : QuietOK P X) (fuel d : Nat) {g : FuncId} {fn : Func} (hfn : P.funcs[g]? = some fn) (hc : callable P g = true) {rs : List Ty} {y : dens rs} (h : (runT P (pe P X fuel d) (D1 P) noS fn [] (decR rs)).force.run = some y) :
    FnOK P g (entry [] (outR rs) fun _ => .ret y) := by
  obtain ⟨hF, hD⟩ := pe_ok hm hX fuel d
  refine entry_ok hm hF hD (F := pe P X fuel d) (D := D1 P) (S := noS) hfn hc (fun c _ => sok_none P 0 c) (fun r v y u => decR_rel) rfl fun x z hz => ?_
  cases run_ret hz
  exact force_run h


/-! ### The library's own functions -/
def typeOfAV (rt gs : Nat) (args : List AV) : T AV :=
  match args with
  | [.ifc t _] => .ret (.ifc rt (.agg [.hnd gs t]))
  | [.nili] => .ret .nili
  | _ => .fail
theorem typeOf_ok {g rt gs : Nat} (h : ∀ t v w, (callFunc g #[.iface t v]).run P w = .ok (.value (.iface rt (.agg #[.pointer (some ⟨gs, t, none⟩)]))) w) (h0 : ∀ w, (callFunc g #[.nilIface]).run P w = .ok (.value .nilIface) w) : ExOK P g (typeOfAV rt gs) := by
  intro args v hv r w us hl
  unfold typeOfAV at hv
  split at hv
  · rename_i t x
    cases run_ret hv
    simp only [LRel, VRel] at hl
    obtain ⟨u, ws, rfl, ⟨y, rfl, _⟩, rfl⟩ := hl
    refine ⟨_, h t y w, ?_⟩
    simp only [VRel, LRel]
    exact ⟨_, rfl, [.pointer (some ⟨gs, t, none⟩)], rfl, _, _, rfl, rfl, rfl⟩
  · cases run_ret hv
    simp only [LRel, VRel] at hl
    obtain ⟨u, ws, rfl, rfl, rfl⟩ := hl
    exact ⟨_, h0 w, by simp only [VRel]⟩
  · exact (run_fail hv).elim

def comparableAV (gs : Nat) (ts : List Nat) (args : List AV) : T AV :=
  match args with
  | [.agg [.hnd b t]] => if b = gs ∧ t ∈ ts then .ret .tt else .fail
  | _ => .fail
theorem comparable_ok {g gs : Nat} {ts : List Nat} (h : ∀ t, t ∈ ts → ∀ w, (callFunc g #[.agg #[.pointer (some ⟨gs, t, none⟩)]]).run P w = .ok (.value (.bool true)) w) : ExOK P g (comparableAV gs ts) := by
  intro args v hv r w us hl
  unfold comparableAV at hv
  split at hv
  · rename_i b t
    split at hv
    · rename_i hc
      cases run_ret hv
      simp only [LRel, VRel] at hl
      obtain ⟨u, ws, rfl, ⟨vs, rfl, y, zs, rfl, rfl, rfl⟩, rfl⟩ := hl
      obtain ⟨rfl, hc⟩ := hc
      exact ⟨_, h t hc w, by simp only [VRel]⟩
    · exact (run_fail hv).elim
  · exact (run_fail hv).elim

def bitsAV (args : List AV) : T AV :=
  match args with
  | [.fl o] => .opt o fun b => .ret (.it .u64 b)
  | _ => .fail
theorem bits_ok {g : Nat} (h : ∀ b w, (callFunc g #[.float .f64 b]).run P w = .ok (.value (.int .u64 b)) w) : ExOK P g bitsAV := by
  intro args v hv r w us hl
  unfold bitsAV at hv
  split at hv
  · rename_i o
    obtain ⟨b, rfl, hv⟩ := run_opt hv
    cases run_ret hv
    simp only [LRel, VRel, FRel] at hl
    obtain ⟨u, ws, rfl, rfl, rfl⟩ := hl
    exact ⟨_, h b w, by simp only [VRel]⟩
  · exact (run_fail hv).elim

def fromBitsAV (args : List AV) : T AV :=
  match args with
  | [.it .u64 n] => .ret (.fl (some n.toNat))
  | _ => .fail
theorem fromBits_ok {g : Nat} (h : ∀ n w, (callFunc g #[.int .u64 n]).run P w = .ok (.value (.float .f64 n.toNat)) w) : ExOK P g fromBitsAV := by
  intro args v hv r w us hl
  unfold fromBitsAV at hv
  split at hv
  · rename_i n
    cases run_ret hv
    simp only [LRel, VRel] at hl
    obtain ⟨u, ws, rfl, rfl, rfl⟩ := hl
    exact ⟨_, h n w, by simp only [VRel, FRel]⟩
  · exact (run_fail hv).elim

end
end Go.Proofs.Pen

namespace Go.Proofs.Pen
open Go RowKit

/-! ### Loops that look at no block, in a frame that owns blocks -/
def Env.bare (ρ : Env) : Env := fun s => match (ρ s).ids with
  | [] => ρ s
  | _ :: _ => .junk

/-- Slots that are not written are as they were. -/
def Env.over (ds : List Nat) (ρ ρ' : Env) : Env := fun s => if ds.contains s then ρ' s else match ρ s with
  | .when _ _ _ => .junk
  | v => v

/-- 'c': the code. -/
def frameS (c : Code) (f : St → T (Ex × St)) (st : St) : T (Ex × St) :=
  (f ⟨st.ρ.bare, [], st.n⟩).bind fun x => match x.2.own with
    | [] => .ret (x.1, ⟨st.ρ.over (dstsC c) x.2.ρ, st.own, x.2.n⟩)
    | _ :: _ => .fail

theorem bare_slot {r : Res} {tm : Array Value} {v : AV} {u : Value} (h : SlotRel r tm v u) : SlotRel (r.cut 0) tm (match v.ids with | [] => v | _ :: _ => .junk) u := by
  cases hi : v.ids with
  | nil => exact cut_slot (fun i hi' => by rw [hi] at hi'; cases hi') h
  | cons i l => simp [SlotRel, VRel]

theorem frame_WP {P : Program} {c : Code} {f : St → T (Ex × St)} (h : WP P 0 c f) (n : Nat) : WP P n c (frameS c f) := by
  intro st ex st' hf w0 M r a w hz hR
  obtain ⟨⟨ex1, st1⟩, h1, h2⟩ := run_bind hf
  dsimp only at h2
  split at h2
  · rename_i hown
    cases run_ret h2
    have hpart := hR.rel.partR (ownK := []) (U := []) (fun i hi => by simp at hi) (fun i cs _ e => by simp at e)
    have hz0 : ∀ i, (baseAt (zeroR w0 [] [] r) w r).Z i → i < 0 := fun i hi => by
      have : i < ([] : List Blk).length := hi.1
      simp at this
    have hR0 : StRel (baseAt (zeroR w0 [] [] r) w r) (liveR (aside [] []) r) ⟨st.ρ.bare, [], st.n⟩ (r.cut 0) a w := ⟨hpart, fun s => bare_slot (hR.fr s), hR.size, hR.defers⟩
    refine wp_mono (h _ _ _ h1 _ _ _ a w hz0 hR0) ?_
    rintro e a' w' ⟨he, kx, r1, k1, k2⟩
    have hrel := k2.rel
    have hown : st1.own = [] := hown
    rw [hown] at hrel
    have hle : (r.cut 0).le r1 := ⟨k1.H, fun i p e => by
      have e : (if i < 0 then r.ι i else none) = some p := e
      rw [if_neg (Nat.not_lt_zero i)] at e; cases e⟩
    obtain ⟨q1, q2, q3⟩ := hR.rel.backR (ownK := []) (U := []) (own' := []) (own2 := st.own) (r1 := r1) (w' := w') (fun i hi => by simp at hi) (fun i hi => by simp at hi) (Nat.le_refl _) (fun i _ h2 => by simp at h2) hle hrel (fun i _ => rfl) (fun i _ h2 => by simp at h2)
    refine ⟨he, kx, _, q1.leN, q3.congr fun i => ?_, fun s => ?_, k2.size, k2.defers⟩
    · simp
    · show SlotRel _ _ (Env.over (dstsC c) st.ρ st1.ρ s) _
      unfold Env.over
      split
      · exact (k2.fr s).mono q2
      · rename_i hs
        have hk := kx s (by simpa using hs)
        rw [hk]
        have h0 := hR.fr s
        split
        · simp [SlotRel, VRel]
        · rename_i hw
          refine .of ((h0.plain ?_).mono q1)
          cases hv : st.ρ s <;> first | rfl | exact absurd hv (hw _ _ _)
  · exact (run_fail h2).elim

/-! ### Callees that write: their bodies are carried out with the caller's own blocks -/
def inL (l : List Nat) (g : Nat) : Bool := l.any fun x => Nat.beq x g

/-- 'S': the loops of such functions that are told; 'C': those of which no test is unknown. -/
structure Deeps where
  D : List Nat
  C : List Nat := []
  frz : Bool := false
  S : Nat → Nat → Option (St → T (Ex × St)) := fun _ => noS

def dpCall (P : Program) (X : Deeps) (F : Fns) (g : Nat) (l : List AV) (own : List Blk) : T (AV × List Blk) :=
  if inL X.D g then
    match P.funcs[g]? with
    | some fn => if callable P g && Nat.ble l.length fn.ntmps then runBody P { F with ctrl := inL X.C g } (inL X.D) (X.S g) fn l own else .fail
    | none => .fail
  else .fail

def dp (P : Program) (q : Nat → List AV → T AV) (X : Deeps) (fuel : Nat) : Nat → Fns
  | 0 => { quiet := q, deep := noDeep, fuel := fuel, frz := X.frz }
  | d + 1 => { quiet := q, deep := dpCall P X (dp P q X fuel d), fuel := fuel, frz := X.frz }

def LoopsOK (P : Program) (S : Nat → Nat → Option (St → T (Ex × St))) : Prop := ∀ g fn c n, P.funcs[g]? = some fn → fn.body = some c → SOK P n (S g) c

theorem loops_none (P : Program) : LoopsOK P fun _ => noS := fun _ _ c n _ _ => sok_none P n c

/-- One function's loops more. -/
def extS (S : Nat → Nat → Option (St → T (Ex × St))) (g : Nat) (s : Nat → Option (St → T (Ex × St))) : Nat → Nat → Option (St → T (Ex × St)) := fun g' => if g' = g then s else S g'

theorem loops_ext {P : Program} {S : Nat → Nat → Option (St → T (Ex × St))} (hS : LoopsOK P S) {g : Nat} {fn : Func} {l : List (Nat × (St → T (Ex × St)))} (hfn : P.funcs[g]? = some fn) (h : ∀ n, TabOK P n (codeOf fn) l) : LoopsOK P (extS S g (tabS l)) := by
  intro g' fn' c n h1 h2
  unfold extS
  split
  · rename_i e
    subst e
    rw [hfn] at h1; cases h1
    exact sok_fn (h n) c h2
  · exact hS g' fn' c n h1 h2

theorem dp_ok {P : Program} (hm : P.follows .mixedOrders = true) {q : Nat → List AV → T AV} (hq : QuietOK P q) {X : Deeps} (hX : LoopsOK P X.S) (fuel : Nat) : ∀ d, QuietOK P (dp P q X fuel d).quiet ∧ DeepOK P (dp P q X fuel d).deep
  | 0 => ⟨hq, deep_none P⟩
  | d + 1 => by
    obtain ⟨hF, hD⟩ := dp_ok hm hq hX fuel d
    refine ⟨hq, ?_⟩
    intro g args own v own' h
    have h : (dpCall P X (dp P q X fuel d) g args own).run = some (v, own') := h
    unfold dpCall at h
    split at h
    · split at h
      · rename_i fn hfn
        split at h
        · rename_i hc
          simp only [Bool.and_eq_true] at hc
          exact ⟨hc.1, fun w0 M r w us hR hl => body_sound (F := { dp P q X fuel d with ctrl := inL X.C g }) hm hF hD hfn (fun c hb => hX g fn c _ hfn hb) h hR hl (Nat.le_of_ble_eq_true hc.2)⟩
        · exact (run_fail h).elim
      · exact (run_fail h).elim
    · exact (run_fail h).elim

end Go.Proofs.Pen
