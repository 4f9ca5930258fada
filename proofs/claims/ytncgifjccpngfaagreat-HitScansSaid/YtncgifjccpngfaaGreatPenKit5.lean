/- A part of the proof that the law HitScans is true of every input: an evaluator of the program and its proof. -/
import Derived.LaidLaws
import Derived.LaidHandle
import Derived.LaidEql
import Derived.ChangeVars
import Derived.JoinedOf
import Derived.Stop.Joined
import Derived.Test.YtncgifjccpngfaaGreatPenKit0
import Derived.Test.YtncgifjccpngfaaGreatPenKit1
import Derived.Test.YtncgifjccpngfaaGreatPenKit2
import Derived.Test.YtncgifjccpngfaaGreatPenKit3
import Derived.Test.YtncgifjccpngfaaGreatPenHitScans4
namespace Go.Proofs.Pen
open Go RowKit

/-! ### Calls without unknown data: carried out -/
def noS : Nat → Option (St → T (Ex × St)) := fun _ => none
def D1 (P : Program) : Nat → Bool := callable P

def peCall (P : Program) (X : Nat → List AV → T AV) (F : Fns) (g : Nat) (l : List AV) : T AV :=
  match P.funcs[g]? with
  | some fn => if callable P g && Nat.ble l.length fn.ntmps then runFn P F (D1 P) noS fn l else X g l
  | none => .fail
def peDeep (P : Program) (F : Fns) (g : Nat) (l : List AV) (own : List Blk) : T (AV × List Blk) :=
  match P.funcs[g]? with
  | some fn => if callable P g && Nat.ble l.length fn.ntmps then runBody P F (D1 P) noS fn l own else .fail
  | none => .fail
def pe (P : Program) (X : Nat → List AV → T AV) (fuel : Nat) : Nat → Fns
  | 0 => { quiet := X, deep := noDeep, fuel := fuel }
  | d + 1 => { quiet := peCall P X (pe P X fuel d), deep := peDeep P (pe P X fuel d), fuel := fuel, closed := true }

section
variable {P : Program}

theorem pe_ok (hm : P.follows .mixedOrders = true) {X : Nat → List AV → T AV} (hX : QuietOK P X) (fuel : Nat) : ∀ d, QuietOK P (pe P X fuel d).quiet ∧ DeepOK P (pe P X fuel d).deep
  | 0 => ⟨hX, deep_none P⟩
  | d + 1 => by
    obtain ⟨hF, hD⟩ := pe_ok hm hX fuel d
    constructor
    · intro g args v h
      have h : (peCall P X (pe P X fuel d) g args).run = some v := h
      unfold peCall at h
      split at h
      · rename_i fn hfn
        split at h
        · rename_i hc
          simp only [Bool.and_eq_true] at hc
          exact .inl ⟨hc.1, fun r w us hι hp hgl hl => fn_sound hm hF hD hfn (fun c _ => sok_none P 0 c) h (Nat.le_of_ble_eq_true hc.2) r w us hι hp hgl hl⟩
        · exact hX g args v h
      · exact (run_fail h).elim
    · intro g args own v own' h
      have h : (peDeep P (pe P X fuel d) g args own).run = some (v, own') := h
      unfold peDeep at h
      split at h
      · rename_i fn hfn
        split at h
        · rename_i hc
          simp only [Bool.and_eq_true] at hc
          exact ⟨hc.1, fun w0 M r w us hR hl => body_sound hm hF hD hfn (fun c _ => sok_none P _ c) h hR hl (Nat.le_of_ble_eq_true hc.2)⟩
        · exact (run_fail h).elim
      · exact (run_fail h).elim

/-- A call without arguments that comes to one value. -/
theorem pe_entry (hm : P.follows .mixedOrders = true) {X : Nat → List AV → T AV} (hX : QuietOK P X) (fuel d : Nat) {g : FuncId} {fn : Func} (hfn : P.funcs[g]? = some fn) (hc : callable P g = true) {rs : List Ty} {y : dens rs} (h : (runT P (pe P X fuel d) (D1 P) noS fn [] (decR rs)).force.run = some y) :
    FnOK P g (entry [] (outR rs) fun _ => .ret y) := by
  obtain ⟨hF, hD⟩ := pe_ok hm hX fuel d
  refine entry_ok hm hF hD (F := pe P X fuel d) (D := D1 P) (S := noS) hfn hc (fun c _ => sok_none P 0 c) (fun r v y u => decR_rel) rfl fun x z hz => ?_
  cases run_ret hz
  exact force_run h


/-! ### The library's own functions -/
def typeOfAV (rt gs : Nat) (args : List AV) : T AV :=
  match args with
  | [.ifc t _] => .ret (.ifc rt (.agg [.hnd gs t]))
  | [.nili] => .ret .nili
  | _ => .fail
theorem typeOf_ok {g rt gs : Nat} (h : ∀ t v w, (callFunc g #[.iface t v]).run P w = .ok (.value (.iface rt (.agg #[.pointer (some ⟨gs, t, none⟩)]))) w) (h0 : ∀ w, (callFunc g #[.nilIface]).run P w = .ok (.value .nilIface) w) : ExOK P g (typeOfAV rt gs) := by
  intro args v hv r w us hl
  unfold typeOfAV at hv
  split at hv
  · rename_i t x
    cases run_ret hv
    simp only [LRel, VRel] at hl
    obtain ⟨u, ws, rfl, ⟨y, rfl, _⟩, rfl⟩ := hl
    refine ⟨_, h t y w, ?_⟩
    simp only [VRel, LRel]
    exact ⟨_, rfl, [.pointer (some ⟨gs, t, none⟩)], rfl, _, _, rfl, rfl, rfl⟩
  · cases run_ret hv
    simp only [LRel, VRel] at hl
    obtain ⟨u, ws, rfl, rfl, rfl⟩ := hl
    exact ⟨_, h0 w, by simp only [VRel]⟩
  · exact (run_fail hv).elim

def comparableAV (gs : Nat) (ts : List Nat) (args : List AV) : T AV :=
  match args with
  | [.agg [.hnd b t]] => if b = gs ∧ t ∈ ts then .ret .tt else .fail
  | _ => .fail
theorem comparable_ok {g gs : Nat} {ts : List Nat} (h : ∀ t, t ∈ ts → ∀ w, (callFunc g #[.agg #[.pointer (some ⟨gs, t, none⟩)]]).run P w = .ok (.value (.bool true)) w) : ExOK P g (comparableAV gs ts) := by
  intro args v hv r w us hl
  unfold comparableAV at hv
  split at hv
  · rename_i b t
    split at hv
    · rename_i hc
      cases run_ret hv
      simp only [LRel, VRel] at hl
      obtain ⟨u, ws, rfl, ⟨vs, rfl, y, zs, rfl, rfl, rfl⟩, rfl⟩ := hl
      obtain ⟨rfl, hc⟩ := hc
      exact ⟨_, h t hc w, by simp only [VRel]⟩
    · exact (run_fail hv).elim
  · exact (run_fail hv).elim

def bitsAV (args : List AV) : T AV :=
  match args with
  | [.fl o] => .opt o fun b => .ret (.it .u64 b)
  | _ => .fail
theorem bits_ok {g : Nat} (h : ∀ b w, (callFunc g #[.float .f64 b]).run P w = .ok (.value (.int .u64 b)) w) : ExOK P g bitsAV := by
  intro args v hv r w us hl
  unfold bitsAV at hv
  split at hv
  · rename_i o
    obtain ⟨b, rfl, hv⟩ := run_opt hv
    cases run_ret hv
    simp only [LRel, VRel, FRel] at hl
    obtain ⟨u, ws, rfl, rfl, rfl⟩ := hl
    exact ⟨_, h b w, by simp only [VRel]⟩
  · exact (run_fail hv).elim

def fromBitsAV (args : List AV) : T AV :=
  match args with
  | [.it .u64 n] => .ret (.fl (some n.toNat))
  | _ => .fail
theorem fromBits_ok {g : Nat} (h : ∀ n w, (callFunc g #[.int .u64 n]).run P w = .ok (.value (.float .f64 n.toNat)) w) : ExOK P g fromBitsAV := by
  intro args v hv r w us hl
  unfold fromBitsAV at hv
  split at hv
  · rename_i n
    cases run_ret hv
    simp only [LRel, VRel] at hl
    obtain ⟨u, ws, rfl, rfl, rfl⟩ := hl
    exact ⟨_, h n w, by simp only [VRel, FRel]⟩
  · exact (run_fail hv).elim

end
end Go.Proofs.Pen

namespace Go.Proofs.Pen
open Go RowKit

/-! ### Loops that look at no block, in a frame that owns blocks -/
def Env.bare (ρ : Env) : Env := fun s => match (ρ s).ids with
  | [] => ρ s
  | _ :: _ => .junk

/-- Slots that are not written are as they were. -/
def Env.over (ds : List Nat) (ρ ρ' : Env) : Env := fun s => if ds.contains s then ρ' s else match ρ s with
  | .when _ _ _ => .junk
  | v => v

/-- 'c': the code. -/
def frameS (c : Code) (f : St → T (Ex × St)) (st : St) : T (Ex × St) :=
  (f ⟨st.ρ.bare, [], st.n⟩).bind fun x => match x.2.own with
    | [] => .ret (x.1, ⟨st.ρ.over (dstsC c) x.2.ρ, st.own, x.2.n⟩)
    | _ :: _ => .fail

theorem bare_slot {r : Res} {tm : Array Value} {v : AV} {u : Value} (h : SlotRel r tm v u) : SlotRel (r.cut 0) tm (match v.ids with | [] => v | _ :: _ => .junk) u := by
  cases hi : v.ids with
  | nil => exact cut_slot (fun i hi' => by rw [hi] at hi'; cases hi') h
  | cons i l => simp [SlotRel, VRel]

theorem frame_WP {P : Program} {c : Code} {f : St → T (Ex × St)} (h : WP P 0 c f) (n : Nat) : WP P n c (frameS c f) := by
  intro st ex st' hf w0 M r a w hz hR
  obtain ⟨⟨ex1, st1⟩, h1, h2⟩ := run_bind hf
  dsimp only at h2
  split at h2
  · rename_i hown
    cases run_ret h2
    have hpart := hR.rel.partR (ownK := []) (U := []) (fun i hi => by simp at hi) (fun i cs _ e => by simp at e)
    have hz0 : ∀ i, (baseAt P (zeroR w0 [] [] r) w r).Z i → i < 0 := fun i hi => by
      have : i < ([] : List Blk).length := hi.1
      simp at this
    have hR0 : StRel (baseAt P (zeroR w0 [] [] r) w r) (liveR (aside [] []) r) ⟨st.ρ.bare, [], st.n⟩ (r.cut 0) a w := ⟨hpart, fun s => bare_slot (hR.fr s), hR.size, hR.defers⟩
    refine wp_mono (h _ _ _ h1 _ _ _ a w hz0 hR0) ?_
    rintro e a' w' ⟨he, kx, r1, k1, k2⟩
    have hrel := k2.rel
    have hown : st1.own = [] := hown
    rw [hown] at hrel
    have hle : (r.cut 0).le r1 := ⟨k1.H, fun i p e => by
      have e : (if i < 0 then r.ι i else none) = some p := e
      rw [if_neg (Nat.not_lt_zero i)] at e; cases e⟩
    obtain ⟨q1, q2, q3⟩ := hR.rel.backR (ownK := []) (U := []) (own' := []) (own2 := st.own) (r1 := r1) (w' := w') (fun i hi => by simp at hi) (fun i hi => by simp at hi) (Nat.le_refl _) (fun i _ h2 => by simp at h2) hle hrel (fun i _ => rfl) (fun i _ h2 => by simp at h2)
    refine ⟨he, kx, _, q1.leN, q3.congr fun i => ?_, fun s => ?_, k2.size, k2.defers⟩
    · simp
    · show SlotRel _ _ (Env.over (dstsC c) st.ρ st1.ρ s) _
      unfold Env.over
      split
      · exact (k2.fr s).mono q2
      · rename_i hs
        have hk := kx s (by simpa using hs)
        rw [hk]
        have h0 := hR.fr s
        split
        · simp [SlotRel, VRel]
        · rename_i hw
          refine .of ((h0.plain ?_).mono q1)
          cases hv : st.ρ s <;> first | rfl | exact absurd hv (hw _ _ _)
  · exact (run_fail h2).elim

/-! ### Callees that write: their bodies are carried out with the caller's own blocks -/
def inL (l : List Nat) (g : Nat) : Bool := l.any fun x => Nat.beq x g

/-- 'S': the loops of such functions that are told; 'C': those of which no test is unknown. -/
structure Deeps where
  D : List Nat
  C : List Nat := []
  frz : Bool := false
  frc : Bool := false
  S : Nat → Nat → Nat → Option (St → T (Ex × St)) := fun _ _ => noS   -- by the callee, and by how many own blocks there are

def dpCall (P : Program) (X : Deeps) (F : Fns) (g : Nat) (l : List AV) (own : List Blk) : T (AV × List Blk) :=
  if inL X.D g then
    match P.funcs[g]? with
    | some fn => if callable P g && Nat.ble l.length fn.ntmps then runBody P { F with ctrl := inL X.C g } (inL X.D) (X.S g own.length) fn l own else .fail
    | none => .fail
  else .fail

def dp (P : Program) (q : Nat → List AV → T AV) (X : Deeps) (fuel : Nat) : Nat → Fns
  | 0 => { quiet := q, deep := noDeep, fuel := fuel, frz := X.frz, frc := X.frc }
  | d + 1 => { quiet := q, deep := dpCall P X (dp P q X fuel d), fuel := fuel, frz := X.frz, frc := X.frc }

def LoopsOK (P : Program) (S : Nat → Nat → Nat → Option (St → T (Ex × St))) : Prop := ∀ g fn c n, P.funcs[g]? = some fn → fn.body = some c → SOK P n (S g n) c

theorem loops_none (P : Program) : LoopsOK P fun _ _ => noS := fun _ _ c n _ _ => sok_none P n c

/-- One function's loops more. -/
def extS (S : Nat → Nat → Nat → Option (St → T (Ex × St))) (g : Nat) (s : Nat → Option (St → T (Ex × St))) : Nat → Nat → Nat → Option (St → T (Ex × St)) := fun g' n => if g' = g then s else S g' n
/-- The same, where so many own blocks are there. -/
def extSn (S : Nat → Nat → Nat → Option (St → T (Ex × St))) (g m : Nat) (s : Nat → Option (St → T (Ex × St))) : Nat → Nat → Nat → Option (St → T (Ex × St)) := fun g' n => if g' = g then (if n = m then s else S g' n) else S g' n

theorem loops_ext {P : Program} {S : Nat → Nat → Nat → Option (St → T (Ex × St))} (hS : LoopsOK P S) {g : Nat} {fn : Func} {l : List (Nat × (St → T (Ex × St)))} (hfn : P.funcs[g]? = some fn) (h : ∀ n, TabOK P n (codeOf fn) l) : LoopsOK P (extS S g (tabS l)) := by
  intro g' fn' c n h1 h2
  unfold extS
  split
  · rename_i e
    subst e
    rw [hfn] at h1; cases h1
    exact sok_fn (h n) c h2
  · exact hS g' fn' c n h1 h2

theorem loops_extn {P : Program} {S : Nat → Nat → Nat → Option (St → T (Ex × St))} (hS : LoopsOK P S) {g m : Nat} {fn : Func} {l : List (Nat × (St → T (Ex × St)))} (hfn : P.funcs[g]? = some fn) (h : TabOK P m (codeOf fn) l) : LoopsOK P (extSn S g m (tabS l)) := by
  intro g' fn' c n h1 h2
  unfold extSn
  split
  · rename_i e
    subst e
    split
    · rename_i e2
      subst e2
      rw [hfn] at h1; cases h1
      exact sok_fn h c h2
    · exact hS g' fn' c n h1 h2
  · exact hS g' fn' c n h1 h2

/-- A loop's table entry in a frame that owns blocks from the beginning. -/
theorem loop_treeN {P : Program} {F : Fns} {D : Nat → Bool} {tab : List (Nat × (St → T (Ex × St)))} (n0 : Nat) (hm : P.follows .mixedOrders = true) (hF : QuietOK P F.quiet) (hD : DeepOK P F.deep) {nt id : Nat} {es : List Ex} {L : List (Nat × Lay)} {c : Code} {t : lden L → T (Ex × lden L)} {g : lden L → Option (Ex × lden L)}
    (hg : ∀ x, g x = (iterT t rounds x).run) (hb : bodies id c = [.loop (loopIn id c)]) (hok : layOK n0 L = true) (hS : TabOK P n0 (loopIn id c) tab) (hrun : ∀ x, roundT P F D (tabS tab) (loopIn id c) L nt x = t x) :
    bodies id c = [.loop (loopIn id c)] ∧ WP P n0 (.block id (.loop (loopIn id c))) (loopS L nt id es g) :=
  ⟨hb, loop_WP hm hF hD hok (sok_tab hS) (fun x y h => by rw [hrun x]; exact h) (fun x y h => ⟨rounds, by rw [← hg x]; exact h⟩)⟩

theorem dp_ok {P : Program} (hm : P.follows .mixedOrders = true) {q : Nat → List AV → T AV} (hq : QuietOK P q) {X : Deeps} (hX : LoopsOK P X.S) (fuel : Nat) : ∀ d, QuietOK P (dp P q X fuel d).quiet ∧ DeepOK P (dp P q X fuel d).deep
  | 0 => ⟨hq, deep_none P⟩
  | d + 1 => by
    obtain ⟨hF, hD⟩ := dp_ok hm hq hX fuel d
    refine ⟨hq, ?_⟩
    intro g args own v own' h
    have h : (dpCall P X (dp P q X fuel d) g args own).run = some (v, own') := h
    unfold dpCall at h
    split at h
    · split at h
      · rename_i fn hfn
        split at h
        · rename_i hc
          simp only [Bool.and_eq_true] at hc
          exact ⟨hc.1, fun w0 M r w us hR hl => body_sound (F := { dp P q X fuel d with ctrl := inL X.C g }) hm hF hD hfn (fun c hb => hX g fn c _ hfn hb) h hR hl (Nat.le_of_ble_eq_true hc.2)⟩
        · exact (run_fail h).elim
      · exact (run_fail h).elim
    · exact (run_fail h).elim

end Go.Proofs.Pen

namespace Go.Proofs.Pen
open Go Go.Proofs Go.ChangeShapes Go.WideShapes Go.RowKit

/-! ## Laws over a program of which a variable is laid: the handle of the type 'error' -/
theorem glob_laid {P : Program} {n g rt ty : Nat} (et : P.globalNamed "errors.errorType" = some g) (hrt : (P.cutTypes.find? (·.1 == "internal/reflectlite.rtype")).map (·.2) = some rt)
    (hone : ((List.range n).filter fun t => P.rowNamed t [101, 114, 114, 111, 114]) = [ty]) (hsize : P.types.size = n) {W : World}
    (h : laidMetH P [("errors.errorType", .iface "internal/reflectlite.rtype" (.agg [.ptr (.lit (.string [101, 114, 114, 111, 114]))]))] W) : ∀ a u, globOf P a = some u → W.cell? a = some u := by
  have h' : laidMet P [] W ∧ handlesMet P [("errors.errorType", .iface "internal/reflectlite.rtype" (.agg [.ptr (.lit (.string [101, 114, 114, 111, 114]))]))] W := h
  obtain ⟨name, u, ty', e1, e2, e3, e4, e5⟩ := h'.2 _ (List.mem_singleton.2 rfl)
  have en : name = [101, 114, 114, 111, 114] := (Option.some.inj e1).symm
  subst en
  obtain rfl := Option.some.inj (hrt.symm.trans e2)
  have hm : ty' ∈ (List.range n).filter fun t => P.rowNamed t [101, 114, 114, 111, 114] := List.mem_filter.2 ⟨List.mem_range.2 (by rw [← hsize]; exact e3), e4⟩
  rw [hone] at hm
  obtain rfl := List.mem_singleton.1 hm
  have hc := World.var?_cell et e5 0
  have hf : (List.range P.types.size).find? (fun t => P.rowNamed t [101, 114, 114, 111, 114]) = some ty' := by
    rw [hsize, ← List.head?_filter, hone]; rfl
  intro a v hv
  unfold globOf at hv
  rw [et, hrt, hf] at hv
  dsimp only at hv
  split at hv
  · rename_i ha
    subst ha
    rw [← hv]
    simpa using hc
  · cases hv
/-- A law that is true of all data is true of all that can be called, where the handle is laid. -/
theorem law_lifted_laid {H : Type} {enc : TypeId × Value → H} {C : Checked} {L : List (String × DataW Unit)} {os : Os} {f : FuncId} {fn : Func} {s : ChangeSpec} {conds : List PathCond} {tb : TypeId} (own : ownKnob C.prog.godebug = none) (started : os.Started) (noInit : C.prog.inits.idxOf? f = none) (hfn : C.prog.funcs[f]? = some fn)
    (witness : ∃ (w : World) (tape : Tape) (i : Input), w.os = os ∧ (w.forCall tape i).Shaped C.prog ∧ i.vars = [] ∧ Input.okWide C.prog (w.forCall tape i) .any w.heap.size f i ∧
      ((s.pre enc C.prog fn conds false (w.forCall tape i).memory i.args ∧ laidMetH C.prog L (w.forCall tape i).memory) ∧ sizedMet enc C.prog fn (OpenSpec.ofChange s) false (w.forCall tape i).memory i.args) ∧ ({} : Assume).holds C.prog (lone (Frame.enter C.prog f i.args .normal) [] (w.forCall tape i)))
    (laid : laidOutB C.prog = true) {tys : List Ty} (hfit : fitsAll C.prog fn.params.toList tys = true) (hpar : tys.all Ty.par = true) (hread : fn.params.toList.all (fun t => C.prog.readableRec t && Nat.blt t C.prog.types.size) = true)
    (hres : fn.resultTypes = #[tb]) (hb : C.prog.underlying tb = some .bool) {law : dens tys → T Bool} (hok : FnOK C.prog f (entry tys (outR [.bool]) law)) (hlaw : ∀ x, insAll tys x → (law x).run = some true)
    (hvars : s.vars = []) (hgl : ∀ W, laidMetH C.prog L W → ∀ a u, globOf C.prog a = some u → W.cell? a = some u) (hspec : ∀ ds : List (DataW H), ds.length = fn.params.toList.length → s.fn H ds = { results := [.lit (.bool true)], args := ds }) :
    ReturnsInHanded {} C os f .any (fun w args => (s.pre enc C.prog fn conds false w args ∧ laidMetH C.prog L w) ∧ sizedMet enc C.prog fn (OpenSpec.ofChange s) false w args) (s.post enc C.prog fn false true false false) := by
  refine returnsInHanded_of_change_and (X := fun w _ => laidMetH C.prog L w) (fun _ _ _ hh h => h.of_heap hh) own started noInit hfn witness ?_
  intro W base args ds gs before hval hW _ hsz hlaid _
  have hW' := hW
  obtain ⟨p, q, hA, hV, rfl, hfz, hnd⟩ := hW
  rw [hvars] at hV
  obtain ⟨rfl, rfl⟩ := trodVars_none hV
  obtain ⟨hl1, hl2⟩ := trodAll_len hA
  rw [List.append_nil, weights_left (ts := fn.params.toList) hl2] at hsz
  have hsm : Small (DataW.weightsEach C.prog fn.params.toList ds) := fun n hn => by
    have := List.all_eq_true.1 hsz n hn
    simpa using this
  obtain ⟨x, hin, hrel⟩ := args_rel fn.params.toList tys hfit args.toList ds p hA (fun j t v h1 h2 => hval j t v (by rw [← Array.getElem?_toList]; exact h1) (by rw [← Array.getElem?_toList]; exact h2)) hsm
  obtain ⟨_, hcall⟩ := hok (encs tys x) (.bo true) (by
    unfold entry
    rw [decs_encs tys x hpar]
    show ((law x).bind fun y => T.ret (outR [.bool] y)).run = _
    have key : ∀ (t : T Bool), t.run = some true → (t.bind fun y => T.ret (outR [.bool] y)).run = some (.bo true) := by
      intro t
      induction t with
      | ret a => intro h; cases run_ret h; rfl
      | ite b x y ih1 ih2 => intro h; cases b <;> simp only [T.run, T.bind] at h ⊢ <;> simp_all
      | opt o k ih =>
        intro h
        obtain ⟨z, h1, h2⟩ := run_opt h
        subst h1
        exact ih z h2
      | fail => intro h; exact (run_fail h).elim
    exact key _ (hlaw x hin))
  refine (hcall ⟨fun p => W.cell? p, fun _ => none⟩ W args.toList (fun _ => rfl) (fun _ _ h => h) (hgl W hlaid) hrel).mono ?_
  rintro e W' ⟨u, r', rfl, _, bel, _, _, _, hu⟩
  simp only [VRel] at hu
  subst hu
  refine ⟨_, rfl, ds, [], p ++ [], [], p, [], hW', ?_, ?_, ?_, bel.frame _, fun h => by cases h⟩
  · rw [List.append_nil, hspec ds hl2, hres]
    exact trodAll_mk1 (shut_bool hb _)
  · rw [List.append_nil, hspec ds hl2]
    exact trodAll_below laid bel hread hA
  · rw [List.append_nil, hspec ds hl2, hvars]
    rfl

end Go.Proofs.Pen

namespace Go.Proofs.Pen
open Go RowKit

/-! ### Calls without unknown data, some callees told by a table -/
def peCallK (P : Program) (X : Nat → List AV → T AV) (K : List Nat) (F : Fns) (g : Nat) (l : List AV) : T AV :=
  if inL K g then X g l else
  match P.funcs[g]? with
  | some fn => if callable P g && Nat.ble l.length fn.ntmps then runFn P F (fun h => !inL K h && callable P h) noS fn l else X g l
  | none => .fail
def peDeepK (P : Program) (K : List Nat) (F : Fns) (g : Nat) (l : List AV) (own : List Blk) : T (AV × List Blk) :=
  match P.funcs[g]? with
  | some fn => if callable P g && Nat.ble l.length fn.ntmps then runBody P F (fun h => !inL K h && callable P h) noS fn l own else .fail
  | none => .fail
def peK (P : Program) (X : Nat → List AV → T AV) (K : List Nat) (fuel : Nat) : Nat → Fns
  | 0 => { quiet := X, deep := noDeep, fuel := fuel }
  | d + 1 => { quiet := peCallK P X K (peK P X K fuel d), deep := peDeepK P K (peK P X K fuel d), fuel := fuel, closed := true }

section
variable {P : Program}

theorem peK_ok (hm : P.follows .mixedOrders = true) {X : Nat → List AV → T AV} (hX : QuietOK P X) (K : List Nat) (fuel : Nat) : ∀ d, QuietOK P (peK P X K fuel d).quiet ∧ DeepOK P (peK P X K fuel d).deep
  | 0 => ⟨hX, deep_none P⟩
  | d + 1 => by
    obtain ⟨hF, hD⟩ := peK_ok hm hX K fuel d
    constructor
    · intro g args v h
      have h : (peCallK P X K (peK P X K fuel d) g args).run = some v := h
      unfold peCallK at h
      split at h
      · exact hX g args v h
      · split at h
        · rename_i fn hfn
          split at h
          · rename_i hc
            simp only [Bool.and_eq_true] at hc
            exact .inl ⟨hc.1, fun r w us hι hp hgl hl => fn_sound hm hF hD hfn (fun c _ => sok_none P 0 c) h (Nat.le_of_ble_eq_true hc.2) r w us hι hp hgl hl⟩
          · exact hX g args v h
        · exact (run_fail h).elim
    · intro g args own v own' h
      have h : (peDeepK P K (peK P X K fuel d) g args own).run = some (v, own') := h
      unfold peDeepK at h
      split at h
      · rename_i fn hfn
        split at h
        · rename_i hc
          simp only [Bool.and_eq_true] at hc
          exact ⟨hc.1, fun w0 M r w us hR hl => body_sound hm hF hD hfn (fun c _ => sok_none P _ c) h hR hl (Nat.le_of_ble_eq_true hc.2)⟩
        · exact (run_fail h).elim
      · exact (run_fail h).elim

/-- A call without arguments that comes to one value. -/
theorem peK_entry (hm : P.follows .mixedOrders = true) {X : Nat → List AV → T AV} (hX : QuietOK P X) (K : List Nat) (fuel d : Nat) {g : FuncId} {fn : Func} (hfn : P.funcs[g]? = some fn) (hc : callable P g = true) {rs : List Ty} {y : dens rs} (h : (runT P (peK P X K fuel d) (fun h => !inL K h && callable P h) noS fn [] (decR rs)).force.run = some y) :
    FnOK P g (entry [] (outR rs) fun _ => .ret y) := by
  obtain ⟨hF, hD⟩ := peK_ok hm hX K fuel d
  refine entry_ok hm hF hD (F := peK P X K fuel d) (D := fun h => !inL K h && callable P h) (S := noS) hfn hc (fun c _ => sok_none P 0 c) (fun r v y u => decR_rel) rfl fun x z hz => ?_
  cases run_ret hz
  exact force_run h

end
end Go.Proofs.Pen

namespace Go.Proofs.Pen
open Go RowKit

/-! ### Copies of a list: slices.Clone, carried out with the caller's own blocks -/
/-- Data that leads to no memory. -/
def flatT : Ty → Bool
  | .pair a b => flatT a && flatT b
  | .st a => flatT a
  | .sl _ => false
  | .ptr _ => false
  | .clo _ _ => false
  | _ => true

theorem flat_rel {H H' : Addr → Option Value} : ∀ (t : Ty) (x : t.den) (vs : List Value), flatT t = true → TRel H t x vs → TRel H' t x vs
  | .int _, _, _, _, h => h
  | .bool, _, _, _, h => h
  | .str, _, _, _, h => h
  | .flt, _, _, _, h => h
  | .unit, _, _, _, h => h
  | .pair a b, x, _, hf, h => by
    simp only [flatT, Bool.and_eq_true] at hf
    obtain ⟨us, ws, e, h1, h2⟩ := h
    exact ⟨us, ws, e, flat_rel a _ _ hf.1 h1, flat_rel b _ _ hf.2 h2⟩
  | .st a, x, vs, hf, h => flat_rel a x vs hf h
  | .sl _, _, _, hf, _ => by cases hf
  | .ptr _, _, _, hf, _ => by cases hf
  | .clo _ _, _, _, hf, _ => by cases hf
  | .er _ _, _, _, _, h => h
  | .ifi _ _, _, _, _, h => h

def isSlice : AV → Bool
  | .sl _ _ => true
  | .slx _ _ => true
  | .osl _ _ _ _ _ => true
  | .nilsl => true
  | _ => false

/-- What slices.Clone gives. -/
def cloneD (t : Ty) (bt : Nat) (args : List AV) (own : List Blk) : T (AV × List Blk) :=
  match args with
  | [v] => if isSlice v then (match listOf own t v with
    | some xs => .ite (decide (xs.length * bt ≤ most)) (.ret (.osl t own.length 0 xs.length none, own ++ [.row t xs])) .fail
    | none => .fail) else .fail
  | _ => .fail

theorem listOf_all {P : Program} {w0 : Base P} {M : Nat → Prop} {own : List Blk} {r : Res} {w : World} (hR : Rel w0 M (Sn own) own r w) {t : Ty} {v : AV} {u : Value} {xs : List t.den} (hs : isSlice v = true) (h : listOf own t v = some xs) (hv : VRel r v u) :
    ∃ p c, u = .slice p xs.length c ∧ xs.length ≤ c ∧ ElemsAt (Res.all w).H (TRel (Res.all w).H t) t.sz xs p := by
  have hmono : r.H = r.H := rfl
  have hH : ∀ a v, r.H a = some v → (Res.all w).H a = some v := fun a v e => hR.pers a v e
  unfold listOf at h
  split at h
  · simp only [VRel] at hv; subst hv; cases h
    exact ⟨none, 0, rfl, Nat.le_refl _, fun hn => absurd rfl hn⟩
  · split at h
    · rename_i ht; subst ht; cases h
      simp only [VRel] at hv
      obtain ⟨p, c, rfl, hl, he⟩ := hv
      exact ⟨p, c, rfl, hl, he.mono hH (TRel.mono hH _)⟩
    · cases h
  · split at h
    · rename_i ht; subst ht; cases h
      simp only [VRel] at hv
      obtain ⟨p, rfl, he⟩ := hv
      exact ⟨p, _, rfl, Nat.le_refl _, he.mono hH (TRel.mono hH _)⟩
    · cases h
  · rename_i t' id off len cap
    split at h
    · rename_i t'' ys hrow
      split at h
      · rename_i ht2
        split at h
        · rename_i ht
          subst ht
          subst ht2
          cases h
          have hf : AV.frz own 6 (.osl t'' id off len cap) = .sl t'' (((castSl rfl ys).drop off).take len) := by
            simp only [AV.frz, AV.frzW, hrow]
            rw [dif_pos trivial]
          have := frz_rel (rb := Res.all w) hR (fun _ _ => rfl) hR.pers (fun _ _ _ _ _ _ _ _ _ e => e) 6 _ _ hv
          rw [hf] at this
          simp only [VRel] at this
          exact this
        · cases h
      · cases h
    · cases h
  · simp [isSlice] at hs
  · cases h

theorem clone_deep {P : Program} {F : Fns} {D : Nat → Bool} {S : Nat → Option (St → T (Ex × St))} (hm : P.follows .mixedOrders = true) (hF : QuietOK P F.quiet) (hD : DeepOK P F.deep) {g : FuncId} {fn : Func} (hfn : P.funcs[g]? = some fn) (hc : callable P g = true)
    (hS : ∀ c, fn.body = some c → SOK P 0 S c) (hn : Nat.ble 1 fn.ntmps = true) {t : Ty} (hft : flatT t = true) {bt : Nat} (h1 : ∀ v, (runBody P F D S fn [.nsl true v] []).run = some (.nilsl, []))
    (h2 : ∀ xs : List t.den, (runBody P F D S fn [.nsl false (.sl t xs)] []).run = (T.ite (decide ((0 + xs.length) * bt ≤ most)) (.ret (.osl t 1 0 (0 + xs.length) none, [.dead, .row t xs])) .fail).run) :
    ∀ args own v own', (cloneD t bt args own).run = some (v, own') → callable P g = true ∧ ∀ (w0 : Base P) (M : Nat → Prop) (r : Res) (w : World) (us : List Value), Rel w0 M (Sn own) own r w → LRel r args us →
      Calls P g us.toArray w fun e w' => ∃ u r', e = .returned u ∧ r.le r' ∧ Rel w0 M (Sn own') own' r' w' ∧ VRel r' v u := by
  intro args own v own' h
  refine ⟨hc, fun w0 M r w us hR hl => ?_⟩
  unfold cloneD at h
  split at h
  · rename_i x
    split at h
    · rename_i hs
      split at h
      · rename_i xs hx
        rcases run_ite h with ⟨hb, h⟩ | ⟨_, h⟩
        · cases run_ret h
          simp only [LRel] at hl
          obtain ⟨u, ws, rfl, hu, rfl⟩ := hl
          obtain ⟨p, c, rfl, hle, he⟩ := listOf_all hR hs hx hu
          have hbase : ∀ a u, (Res.all w).H a = some u → w.cell? a = some u := fun _ _ e => e
          have hR0 : Rel (P := P) ⟨w, (Res.all w).H, fun _ => False⟩ (fun _ => False) (Sn []) [] (Res.all w) w :=
            ⟨rfl, rfl, rfl, Nat.le_refl _, fun _ _ _ => rfl, hbase, fun id k hs => by unfold Sn at hs; simp at hs, fun i j k l b C C' hi => by unfold Sn at hi; simp at hi, fun i _ => rfl, fun a v e => .inl e, fun i h => h.elim, fun a v e => hR.pers a v (hR.glob a v e)⟩
          have below : ∀ {own1 : List Blk} {r1 : Res} {w' : World}, Rel (P := P) ⟨w, (Res.all w).H, fun _ => False⟩ (fun _ => False) (Sn own1) own1 r1 w' → Below w.heap.size w w' := fun k => ⟨k.os, k.tape, k.output, k.size, fun b hb => k.base b hb (fun h => h)⟩
          have stay : ∀ {w' : World}, Below w.heap.size w w' → Rel w0 M (Sn own) own r w' := fun {w'} hb => by
            have := hR.below (H' := r.H) hb (fun _ _ e => e) (fun a v e => ?_) (fun _ _ e => .inl e)
            · exact this
            · have hc := hR.pers a v e
              have hlt : a.block < w.heap.size := by
                rcases Nat.lt_or_ge a.block w.heap.size with h | h
                · exact h
                · simp [World.cell?, Array.getElem?_eq_none h] at hc
              rw [← hc]
              exact World.cell?_of_block (hb.block _ hlt)
          have hid : (own ++ [Blk.row t xs])[own.length]? = some (.row t xs) := by simp
          have hns : ¬ Sn own own.length := by unfold Sn; omega
          have grow : ∀ {w' : World}, Rel w0 M (Sn own) own r w' → Rel w0 M (Sn own) (own ++ [Blk.row t xs]) r w' := fun {w'} k => by
            have hag : ∀ i, Sn own i → (own ++ [Blk.row t xs])[i]? = own[i]? := fun i hi => by rw [List.getElem?_append_left (show i < own.length from hi)]
            exact { os := k.os, tape := k.tape, output := k.output, size := k.size, base := k.base, pers := k.pers,
                    blk := fun i b hs hi hl => k.blk i b hs (by rw [← hag i hs]; exact hi) hl,
                    inj := fun i j b1 b2 b C C' hi hj e1 e2 => k.inj i j b1 b2 b C C' hi hj (by rw [← hag i hi]; exact e1) (by rw [← hag j hj]; exact e2),
                    dom := k.dom, up := k.up, zero := k.zero, glob := k.glob }
          have hSn : ∀ i, (Sn own i ∨ i = own.length) ↔ Sn (own ++ [Blk.row t xs]) i := fun i => by
            unfold Sn; simp only [List.length_append, List.length_cons, List.length_nil]; omega
          cases p with
          | none =>
            have hxs : xs = [] := by
              apply Classical.byContradiction
              intro hne
              obtain ⟨ad, e, _⟩ := he hne
              cases e
            subst hxs
            have hargs : LRel (Res.all w) [.nsl true (.sl t [])] [.slice none ([] : List t.den).length c] := by
              simp only [LRel, VRel]
              exact ⟨_, [], rfl, ⟨⟨none, c, rfl, hle, fun hn => absurd rfl hn⟩, none, _, c, rfl, rfl⟩, rfl⟩
            refine (body_sound (own := []) hm hF hD hfn hS (h1 (.sl t [])) hR0 hargs (Nat.le_of_ble_eq_true hn)).mono ?_
            rintro e w' ⟨u, r1, rfl, k1, k2, k3⟩
            simp only [VRel] at k3
            subst k3
            refine ⟨_, r, rfl, .refl r, ((grow (stay (below k2))).emptyRow (id := own.length) (t := t) hns hid).congr hSn, ?_⟩
            simp only [VRel]
            exact ⟨none, 0, rfl, Nat.le_refl _, fun c' h => (by cases h), .inl (by simp)⟩
          | some ad =>
            have hargs : LRel (Res.all w) [.nsl false (.sl t xs)] [.slice (some ad) xs.length c] := by
              simp only [LRel, VRel]
              exact ⟨_, [], rfl, ⟨⟨some ad, c, rfl, hle, he⟩, some ad, _, c, rfl, rfl⟩, rfl⟩
            have hrun : (runBody P F D S fn [.nsl false (.sl t xs)] []).run = some (.osl t 1 0 (0 + xs.length) none, [.dead, .row t xs]) := by
              rw [h2 xs]
              have hb' : decide ((0 + xs.length) * bt ≤ most) = true := by rw [Nat.zero_add]; exact hb
              simp only [T.run, hb', if_true]
            refine (body_sound (own := []) hm hF hD hfn hS hrun hR0 hargs (Nat.le_of_ble_eq_true hn)).mono ?_
            rintro e w' ⟨u, r1, rfl, k1, k2, k3⟩
            rw [Nat.zero_add] at k3
            have hb1 := below k2
            have base := grow (stay hb1)
            rcases k2.blk 1 (.row t xs) (by unfold Sn; simp) rfl rfl with ⟨b, C, e1, ⟨vs, ty, fz, q1, q2, q3, q4, q5, q6⟩, e3, e4⟩ | ⟨e1, t', e2⟩
            · have hge : w.heap.size ≤ b := by
                rcases e3 with e3 | e3
                · exact e3.elim
                · exact e3
              have hbn : ∀ a v, r.H a = some v → a.block ≠ b := fun a v ha hab => by
                have hc := hR.pers a v ha
                have hlt : a.block < w.heap.size := by
                  rcases Nat.lt_or_ge a.block w.heap.size with h | h
                  · exact h
                  · simp [World.cell?, Array.getElem?_eq_none h] at hc
                omega
              have hlive : ∀ i k b' C', Sn own i → (own ++ [Blk.row t xs])[i]? = some k → isLive k = true → r.ι i = some (b', C') → b' < w.heap.size := fun i k b' C' hi hk hl hι => by
                have hi' : i < own.length := hi
                rw [List.getElem?_append_left hi'] at hk
                rcases hR.blk i k hi hk hl with ⟨b2, C2, f1, f2, _, _⟩ | ⟨f1, _⟩
                · rw [hι] at f1; cases f1
                  cases k with
                  | cells cs => obtain ⟨vs', e', fz', g1, _⟩ := f2; exact (Array.getElem?_eq_some_iff.1 g1).1
                  | row t' ys => obtain ⟨vs', e', fz', g1, _⟩ := f2; exact (Array.getElem?_eq_some_iff.1 g1).1
                  | dead => cases hl
                · rw [hι] at f1; cases f1
              let r' : Res := { H := r.H, ι := fun i => if i = own.length then some (b, C) else r.ι i }
              have hle' : r.le r' := ⟨fun _ _ e => e, fun i p e => by
                show (if i = own.length then _ else r.ι i) = _
                rw [if_neg (fun hi => by subst hi; rw [hR.dom _ hns] at e; cases e)]; exact e⟩
              have hι : ∀ i, i ≠ own.length → r'.ι i = r.ι i := fun i hi => by show (if i = own.length then _ else r.ι i) = _; rw [if_neg hi]
              have hιn : r'.ι own.length = some (b, C) := by show (if own.length = own.length then _ else _) = _; rw [if_pos rfl]
              refine ⟨u, r', rfl, hle', ?_, ?_⟩
              · have key : Rel w0 M (fun i => Sn own i ∨ i = own.length) (own ++ [Blk.row t xs]) r' w' :=
                  { os := base.os, tape := base.tape, output := base.output, size := base.size, base := base.base, pers := base.pers,
                    blk := fun i k hs hi hl => by
                      rcases hs with hs | rfl
                      · have hne : i ≠ own.length := by have : i < own.length := hs; omega
                        rcases base.blk i k hs hi hl with ⟨b2, C2, f1, f2, f3, f4⟩ | ⟨f1, f2⟩
                        · exact .inl ⟨b2, C2, by rw [hι i hne]; exact f1, f2.mono hle', f3, f4⟩
                        · exact .inr ⟨by rw [hι i hne]; exact f1, f2⟩
                      · rw [hid] at hi; cases hi
                        exact .inl ⟨b, C, hιn, ⟨vs, ty, fz, q1, q2, q3, q4, q5, fun j y hj => by
                          obtain ⟨us', g1, g2, g3⟩ := q6 j y hj
                          exact ⟨us', g1, flat_rel t _ _ hft g2, g3⟩⟩, .inr (Nat.le_trans hR.size hge), hbn⟩
                    inj := fun i j k l b' C1 C2 hi hj hk hl' f1 f2 g1 g2 => by
                      by_cases hi' : i = own.length
                      · by_cases hj' : j = own.length
                        · rw [hi', hj']
                        · exfalso
                          subst hi'
                          rw [hιn] at g1; cases g1
                          rw [hι j hj'] at g2
                          have := hlive j l b C2 (by rcases hj with hj | hj; exact hj; exact absurd hj hj') hl' f2 g2
                          omega
                      · by_cases hj' : j = own.length
                        · exfalso
                          subst hj'
                          rw [hιn] at g2; cases g2
                          rw [hι i hi'] at g1
                          have := hlive i k b C1 (by rcases hi with hi | hi; exact hi; exact absurd hi hi') hk f1 g1
                          omega
                        · rw [hι i hi'] at g1
                          rw [hι j hj'] at g2
                          exact base.inj i j k l b' C1 C2 (by rcases hi with hi | hi; exact hi; exact absurd hi hi') (by rcases hj with hj | hj; exact hj; exact absurd hj hj') hk hl' f1 f2 g1 g2
                    dom := fun i hi => by
                      rw [hι i (fun h => hi (.inr h))]
                      exact base.dom i fun h => hi (.inl h)
                    up := base.up
                    zero := fun i hi => by
                      obtain ⟨z1, z2⟩ := base.zero i hi
                      have hne : i ≠ own.length := by have : i < own.length := z1; omega
                      exact ⟨.inl z1, by rw [hι i hne]; exact z2⟩
                    glob := base.glob }
                exact key.congr hSn
              · simp only [VRel] at k3 ⊢
                obtain ⟨p, c', rfl, g1, g2, g3⟩ := k3
                refine ⟨p, c', rfl, g1, g2, ?_⟩
                rcases g3 with g3 | ⟨b2, C2, f1, f2, f3, f4⟩
                · exact .inl g3
                · rw [e1] at f1; cases f1
                  exact .inr ⟨b, C, hιn, f2, f3, f4⟩
            · have hxs : xs = [] := by cases e2; rfl
              subst hxs
              simp only [VRel] at k3
              obtain ⟨p, c', rfl, g1, g2, g3⟩ := k3
              have hc0 : c' = 0 := by
                rcases g3 with ⟨_, g3⟩ | ⟨b2, C2, f1, _⟩
                · exact g3
                · rw [e1] at f1; cases f1
              subst hc0
              refine ⟨_, r, rfl, .refl r, (base.emptyRow (id := own.length) (t := t) hns hid).congr hSn, ?_⟩
              simp only [VRel]
              exact ⟨p, 0, rfl, Nat.le_refl _, fun c' h => (by cases h), .inl (by simp)⟩
        · exact (run_fail h).elim
      · exact (run_fail h).elim
    · exact (run_fail h).elim
  · exact (run_fail h).elim
end Go.Proofs.Pen

namespace Go.Proofs.Pen
open Go RowKit

/-! ### Callees that write and are told by a table -/
abbrev DTab := Nat → Option (List AV → List Blk → T (AV × List Blk))
def TBOK (P : Program) (TB : DTab) : Prop := ∀ g c, TB g = some c → ∀ args own v own', (c args own).run = some (v, own') → callable P g = true ∧ ∀ (w0 : Base P) (M : Nat → Prop) (r : Res) (w : World) (us : List Value), Rel w0 M (Sn own) own r w → LRel r args us →
      Calls P g us.toArray w fun e w' => ∃ u r', e = .returned u ∧ r.le r' ∧ Rel w0 M (Sn own') own' r' w' ∧ VRel r' v u
def tbNone : DTab := fun _ => none
def tbExt (TB : DTab) (g : Nat) (c : List AV → List Blk → T (AV × List Blk)) : DTab := fun g' => if g' = g then some c else TB g'
theorem tb_none (P : Program) : TBOK P tbNone := fun _ _ h => by cases h
theorem tb_ext {P : Program} {TB : DTab} (h : TBOK P TB) {g : Nat} {c : List AV → List Blk → T (AV × List Blk)}
    (hc : ∀ args own v own', (c args own).run = some (v, own') → callable P g = true ∧ ∀ (w0 : Base P) (M : Nat → Prop) (r : Res) (w : World) (us : List Value), Rel w0 M (Sn own) own r w → LRel r args us →
      Calls P g us.toArray w fun e w' => ∃ u r', e = .returned u ∧ r.le r' ∧ Rel w0 M (Sn own') own' r' w' ∧ VRel r' v u) : TBOK P (tbExt TB g c) := by
  intro g' c' e
  unfold tbExt at e
  split at e
  · rename_i hg; subst hg; cases e; exact hc
  · exact h g' c' e

def tabD (TB : DTab) (q : Nat → List AV → List Blk → T (AV × List Blk)) (g : Nat) (l : List AV) (own : List Blk) : T (AV × List Blk) :=
  match TB g with
  | some c => c l own
  | none => q g l own

theorem tabD_ok {P : Program} {TB : DTab} (hT : TBOK P TB) {q : Nat → List AV → List Blk → T (AV × List Blk)} (hq : DeepOK P q) : DeepOK P (tabD TB q) := by
  intro g args own v own' h
  unfold tabD at h
  split at h
  · rename_i c hc; exact hT g c hc args own v own' h
  · exact hq g args own v own' h

/-- As 'dp'. -/
def dpT (P : Program) (q : Nat → List AV → T AV) (X : Deeps) (TB : DTab) (fuel : Nat) : Nat → Fns
  | 0 => { quiet := q, deep := tabD TB noDeep, fuel := fuel, frz := X.frz, frc := X.frc }
  | d + 1 => { quiet := q, deep := tabD TB (dpCall P X (dpT P q X TB fuel d)), fuel := fuel, frz := X.frz, frc := X.frc }

theorem dpT_ok {P : Program} (hm : P.follows .mixedOrders = true) {q : Nat → List AV → T AV} (hq : QuietOK P q) {X : Deeps} (hX : LoopsOK P X.S) {TB : DTab} (hT : TBOK P TB) (fuel : Nat) : ∀ d, QuietOK P (dpT P q X TB fuel d).quiet ∧ DeepOK P (dpT P q X TB fuel d).deep
  | 0 => ⟨hq, tabD_ok hT (deep_none P)⟩
  | d + 1 => by
    obtain ⟨hF, hD⟩ := dpT_ok hm hq hX hT fuel d
    refine ⟨hq, tabD_ok hT ?_⟩
    intro g args own v own' h
    have h : (dpCall P X (dpT P q X TB fuel d) g args own).run = some (v, own') := h
    unfold dpCall at h
    split at h
    · split at h
      · rename_i fn hfn
        split at h
        · rename_i hc
          simp only [Bool.and_eq_true] at hc
          exact ⟨hc.1, fun w0 M r w us hR hl => body_sound (F := { dpT P q X TB fuel d with ctrl := inL X.C g }) hm hF hD hfn (fun c hb => hX g fn c _ hfn hb) h hR hl (Nat.le_of_ble_eq_true hc.2)⟩
        · exact (run_fail h).elim
      · exact (run_fail h).elim
    · exact (run_fail h).elim

/-- As 'peK'. -/
def peT (P : Program) (X : Nat → List AV → T AV) (K : List Nat) (TB : DTab) (fuel : Nat) : Nat → Fns
  | 0 => { quiet := X, deep := tabD TB noDeep, fuel := fuel }
  | d + 1 => { quiet := peCallK P X K (peT P X K TB fuel d), deep := tabD TB (peDeepK P K (peT P X K TB fuel d)), fuel := fuel, closed := true }

theorem peT_ok {P : Program} (hm : P.follows .mixedOrders = true) {X : Nat → List AV → T AV} (hX : QuietOK P X) (K : List Nat) {TB : DTab} (hT : TBOK P TB) (fuel : Nat) : ∀ d, QuietOK P (peT P X K TB fuel d).quiet ∧ DeepOK P (peT P X K TB fuel d).deep
  | 0 => ⟨hX, tabD_ok hT (deep_none P)⟩
  | d + 1 => by
    obtain ⟨hF, hD⟩ := peT_ok hm hX K hT fuel d
    refine ⟨?_, tabD_ok hT ?_⟩
    · intro g args v h
      have h : (peCallK P X K (peT P X K TB fuel d) g args).run = some v := h
      unfold peCallK at h
      split at h
      · exact hX g args v h
      · split at h
        · rename_i fn hfn
          split at h
          · rename_i hc
            simp only [Bool.and_eq_true] at hc
            exact .inl ⟨hc.1, fun r w us hι hp hgl hl => fn_sound hm hF hD hfn (fun c _ => sok_none P 0 c) h (Nat.le_of_ble_eq_true hc.2) r w us hι hp hgl hl⟩
          · exact hX g args v h
        · exact (run_fail h).elim
    · intro g args own v own' h
      have h : (peDeepK P K (peT P X K TB fuel d) g args own).run = some (v, own') := h
      unfold peDeepK at h
      split at h
      · rename_i fn hfn
        split at h
        · rename_i hc
          simp only [Bool.and_eq_true] at hc
          exact ⟨hc.1, fun w0 M r w us hR hl => body_sound hm hF hD hfn (fun c _ => sok_none P _ c) h hR hl (Nat.le_of_ble_eq_true hc.2)⟩
        · exact (run_fail h).elim
      · exact (run_fail h).elim

theorem peT_entry {P : Program} (hm : P.follows .mixedOrders = true) {X : Nat → List AV → T AV} (hX : QuietOK P X) (K : List Nat) {TB : DTab} (hT : TBOK P TB) (fuel d : Nat) {g : FuncId} {fn : Func} (hfn : P.funcs[g]? = some fn) (hc : callable P g = true) {rs : List Ty} {y : dens rs} (h : (runT P (peT P X K TB fuel d) (fun h => !inL K h && callable P h) noS fn [] (decR rs)).force.run = some y) :
    FnOK P g (entry [] (outR rs) fun _ => .ret y) := by
  obtain ⟨hF, hD⟩ := peT_ok hm hX K hT fuel d
  refine entry_ok hm hF hD (F := peT P X K TB fuel d) (D := fun h => !inL K h && callable P h) (S := noS) hfn hc (fun c _ => sok_none P 0 c) (fun r v y u => decR_rel) rfl fun x z hz => ?_
  cases run_ret hz
  exact force_run h
end Go.Proofs.Pen

namespace Go.Proofs.Pen
open Go RowKit

/-! ### Functions whose results lie in new memory alone -/
mutual
def freshAV : AV → Bool
  | .osl t _ _ _ _ => flatT t
  | .agg cs => freshL cs
  | .tup cs => freshL cs
  | v => scalar v
def freshL : List AV → Bool
  | [] => true
  | v :: l => freshAV v && freshL l
end

mutual
theorem scalar_frz {r rF : Res} {own : List Blk} {g : Nat → Nat → AV} : ∀ (v : AV) (u : Value), scalar v = true → VRel r v u → VRel rF (AV.frzW own g v) u
  | .junk, _, _, k => by simp [VRel, AV.frzW]
  | .undef, _, _, k => by simpa [VRel, AV.frzW] using k
  | .tt, _, _, k => by simpa [VRel, AV.frzW] using k
  | .ff, _, _, k => by simpa [VRel, AV.frzW] using k
  | .bo _, _, _, k => by simpa [VRel, AV.frzW] using k
  | .it _ _, _, _, k => by simpa [VRel, AV.frzW] using k
  | .sr _, _, _, k => by simpa [VRel, AV.frzW] using k
  | .fl _, _, _, k => by simpa [VRel, AV.frzW] using k
  | .agg cs, _, n, k => by
    simp only [VRel, scalar, AV.frzW] at k n ⊢
    obtain ⟨vs, e, k⟩ := k
    exact ⟨vs, e, scalar_frzL cs vs n k⟩
  | .tup cs, _, n, k => by
    simp only [VRel, scalar, AV.frzW] at k n ⊢
    obtain ⟨vs, e, k⟩ := k
    exact ⟨vs, e, scalar_frzL cs vs n k⟩
  | .sl _ _, _, n, _ => by simp [scalar] at n
  | .slx _ _, _, n, _ => by simp [scalar] at n
  | .osl _ _ _ _ _, _, n, _ => by simp [scalar] at n
  | .ref _ _, _, n, _ => by simp [scalar] at n
  | .rel _ _ _ _, _, n, _ => by simp [scalar] at n
  | .ptr _, _, n, _ => by simp [scalar] at n
  | .nilp, _, _, k => by simpa [VRel, AV.frzW] using k
  | .nilf, _, _, k => by simpa [VRel, AV.frzW] using k
  | .nili, _, _, k => by simpa [VRel, AV.frzW] using k
  | .nilsl, _, _, k => by simpa [VRel, AV.frzW] using k
  | .hnd _ _, _, _, k => by simpa [VRel, AV.frzW] using k
  | .clo f a c, _, n, k => by
    simp only [VRel, scalar, Bool.and_eq_true, AV.frzW] at k n ⊢
    obtain ⟨us, ws, e, k1, k2⟩ := k
    exact ⟨us, ws, e, scalar_frzL a us n.1 k1, scalar_frzL c ws n.2 k2⟩
  | .ifc t x, _, n, k => by
    simp only [VRel, scalar, AV.frzW] at k n ⊢
    obtain ⟨u, e, k⟩ := k
    exact ⟨u, e, scalar_frz x u n k⟩
  | .when _ _ _, _, n, _ => by simp [scalar] at n
  | .er _ _ _, _, _, k => by simpa [VRel, AV.frzW] using k
  | .nsl b v, u, n, k => by
    simp only [VRel, scalar, AV.frzW] at k n ⊢
    exact scalar_frz v u n k.1
theorem scalar_frzL {r rF : Res} {own : List Blk} {g : Nat → Nat → AV} : ∀ (cs : List AV) (vs : List Value), scalarL cs = true → LRel r cs vs → LRel rF (AV.frzL own g cs) vs
  | [], _, _, k => by simp only [LRel, AV.frzL] at k ⊢; exact k
  | c :: cs, _, n, k => by
    simp only [LRel, scalarL, Bool.and_eq_true, AV.frzL] at k n ⊢
    obtain ⟨v, ws, e, k1, k2⟩ := k
    exact ⟨v, ws, e, scalar_frz c v n.1 k1, scalar_frzL cs ws n.2 k2⟩
end

section
variable {P : Program} {w0 : Base P} {w : World} {own : List Blk} {r rF : Res} {g : Nat → Nat → AV}

theorem fresh_osl (hR : Rel w0 (fun _ => False) (Sn own) own r w) (hF : ∀ a x, w.cell? a = some x → w0.heap.size ≤ a.block → rF.H a = some x) {t : Ty} {id off len : Nat} {cap : Option Nat} {u : Value} (hf : flatT t = true) (k : VRel r (.osl t id off len cap) u) : VRel rF (AV.frzW own g (.osl t id off len cap)) u := by
  unfold AV.frzW
  split
  · rename_i t' xs hrow
    split
    · rename_i ht
      subst ht
      simp only [VRel] at k ⊢
      obtain ⟨p, c, rfl, k1, k2, k3⟩ := k
      have hid := rowAt_live (own := own) (ownF := own) (fun _ _ => rfl) hrow rfl
      rcases k3 with ⟨k3, k4⟩ | ⟨b, C, e1, rfl, e3, e4⟩
      · subst k3 k4
        simp only [List.take_zero, List.length_nil]
        exact ⟨p, 0, rfl, Nat.le_refl _, fun hn => absurd rfl hn⟩
      · rcases hR.blk id _ (List.getElem?_eq_some_iff.1 hid).1 hid rfl with ⟨b', C', q1, q2, q3, q4⟩ | ⟨q1, _⟩
        · rw [e1] at q1; cases q1
          obtain ⟨hxl, hel⟩ := hR.row (ownF := own) (own := own) (fun _ _ => rfl) hrow e1
          have hge : w0.heap.size ≤ b := by rcases q3 with q3 | q3; exact q3.elim; exact q3
          have hl : (((castSl rfl xs).drop off).take len).length = len := by
            show ((xs.drop off).take len).length = len
            rw [List.length_take, List.length_drop]; omega
          refine ⟨_, c, by rw [hl], by rw [hl]; exact k1, fun _ => ⟨_, rfl, fun i x hx => ?_⟩⟩
          have hx : ((xs.drop off).take len)[i]? = some x := hx
          rw [List.getElem?_take] at hx
          split at hx
          · rw [List.getElem?_drop] at hx
            obtain ⟨us, l1, l2, l3⟩ := hel (off + i) x hx
            refine ⟨us, l1, flat_rel t' x us hf l2, fun j v hj => ?_⟩
            have := l3 j v hj
            rw [add_none, add_none] at *
            rw [Nat.add_mul] at this
            exact hF _ _ this hge
          · cases hx
        · rw [e1] at q1; cases q1
    · simp [VRel]
  · simp [VRel]

mutual
theorem fresh_rel (hR : Rel w0 (fun _ => False) (Sn own) own r w) (hF : ∀ a x, w.cell? a = some x → w0.heap.size ≤ a.block → rF.H a = some x) : ∀ (v : AV) (u : Value), freshAV v = true → VRel r v u → VRel rF (AV.frzW own g v) u
  | .osl t id off len cap, u, hf, k => fresh_osl hR hF (by simpa [freshAV] using hf) k
  | .agg cs, _, n, k => by
    simp only [VRel, freshAV, AV.frzW] at k n ⊢
    obtain ⟨vs, e, k⟩ := k
    exact ⟨vs, e, fresh_relL hR hF cs vs n k⟩
  | .tup cs, _, n, k => by
    simp only [VRel, freshAV, AV.frzW] at k n ⊢
    obtain ⟨vs, e, k⟩ := k
    exact ⟨vs, e, fresh_relL hR hF cs vs n k⟩
  | .junk, u, n, k => scalar_frz _ u (by simpa [freshAV] using n) k
  | .undef, u, n, k => scalar_frz _ u (by simpa [freshAV] using n) k
  | .tt, u, n, k => scalar_frz _ u (by simpa [freshAV] using n) k
  | .ff, u, n, k => scalar_frz _ u (by simpa [freshAV] using n) k
  | .bo _, u, n, k => scalar_frz _ u (by simpa [freshAV] using n) k
  | .it _ _, u, n, k => scalar_frz _ u (by simpa [freshAV] using n) k
  | .sr _, u, n, k => scalar_frz _ u (by simpa [freshAV] using n) k
  | .fl _, u, n, k => scalar_frz _ u (by simpa [freshAV] using n) k
  | .sl _ _, u, n, k => scalar_frz _ u (by simpa [freshAV] using n) k
  | .slx _ _, u, n, k => scalar_frz _ u (by simpa [freshAV] using n) k
  | .ref _ _, u, n, k => scalar_frz _ u (by simpa [freshAV] using n) k
  | .rel _ _ _ _, u, n, k => scalar_frz _ u (by simpa [freshAV] using n) k
  | .ptr _, u, n, k => scalar_frz _ u (by simpa [freshAV] using n) k
  | .nilp, u, n, k => scalar_frz _ u (by simpa [freshAV] using n) k
  | .nilf, u, n, k => scalar_frz _ u (by simpa [freshAV] using n) k
  | .nili, u, n, k => scalar_frz _ u (by simpa [freshAV] using n) k
  | .nilsl, u, n, k => scalar_frz _ u (by simpa [freshAV] using n) k
  | .hnd _ _, u, n, k => scalar_frz _ u (by simpa [freshAV] using n) k
  | .clo _ _ _, u, n, k => scalar_frz _ u (by simpa [freshAV] using n) k
  | .ifc _ _, u, n, k => scalar_frz _ u (by simpa [freshAV] using n) k
  | .when _ _ _, u, n, k => scalar_frz _ u (by simpa [freshAV] using n) k
  | .er _ _ _, u, n, k => scalar_frz _ u (by simpa [freshAV] using n) k
  | .nsl _ _, u, n, k => scalar_frz _ u (by simpa [freshAV] using n) k
theorem fresh_relL (hR : Rel w0 (fun _ => False) (Sn own) own r w) (hF : ∀ a x, w.cell? a = some x → w0.heap.size ≤ a.block → rF.H a = some x) : ∀ (cs : List AV) (vs : List Value), freshL cs = true → LRel r cs vs → LRel rF (AV.frzL own g cs) vs
  | [], _, _, k => by simp only [LRel, AV.frzL] at k ⊢; exact k
  | c :: cs, _, n, k => by
    simp only [LRel, freshL, Bool.and_eq_true, AV.frzL] at k n ⊢
    obtain ⟨v, ws, e, k1, k2⟩ := k
    exact ⟨v, ws, e, fresh_rel hR hF c v n.1 k1, fresh_relL hR hF cs ws n.2 k2⟩
end
end

/-- What is known of such a call. -/
def FrOK (P : Program) (g : Nat) (c : List AV → T AV) : Prop := ∀ args v, (c args).run = some v → callable P g = true ∧ ∀ (r : Res) (w : World) (us : List Value), (∀ i, r.ι i = none) → (∀ a u, r.H a = some u → w.cell? a = some u) → (∀ a u, globOf P a = some u → r.H a = some u) → LRel r args us →
    Calls P g us.toArray w fun e w' => ∃ u r', e = .returned u ∧ Below w.heap.size w w' ∧ (∀ a x, r'.H a = some x → w'.cell? a = some x ∧ w.heap.size ≤ a.block) ∧ (∀ i, r'.ι i = none) ∧ VRel r' v u

/-- A run whose results lie in new memory. -/
def runFr (P : Program) (F : Fns) (D : Nat → Bool) (S : Nat → Option (St → T (Ex × St))) (fn : Func) (args : List AV) {ρ : Type} (dec : AV → Option ρ) : T ρ :=
  (runBody P F D S fn args []).bind fun x => if freshAV x.1 then optT (dec (AV.frz x.2 6 x.1)) else .fail

theorem entry_fresh {P : Program} {F : Fns} {D : Nat → Bool} {S : Nat → Option (St → T (Ex × St))} {ps rs : List Ty} {t : dens ps → T (dens rs)} (hm : P.follows .mixedOrders = true) (hF : QuietOK P F.quiet) (hD : DeepOK P F.deep) {g : FuncId} {fn : Func} (hfn : P.funcs[g]? = some fn) (hc : callable P g = true)
    (hS : ∀ c, fn.body = some c → SOK P 0 S c) (hn : Nat.ble ps.length fn.ntmps = true) (h : ∀ x, runFr P F D S fn (encs ps x) (decR rs) = t x) {q : List AV → T AV} (hq : ∀ args v, (q args).run = some v → (entry ps (outR rs) t args).run = some v) : FrOK P g q := by
  intro args v hv
  refine ⟨hc, fun r w us hι hp hgl hl => ?_⟩
  have hv := hq args v hv
  unfold entry at hv
  split at hv
  · rename_i x hx
    obtain ⟨y, h1, h2⟩ := run_bind hv
    have := run_ret h2; subst this
    rw [← h x] at h1
    unfold runFr at h1
    obtain ⟨⟨v0, own'⟩, h3, h4⟩ := run_bind h1
    dsimp only at h4
    split at h4
    · rename_i hfr
      have h4 := run_optT h4
      have hR : Rel (P := P) ⟨w, r.H, fun _ => False⟩ (fun _ => False) (Sn []) [] r w :=
        ⟨rfl, rfl, rfl, Nat.le_refl _, fun _ _ _ => rfl, hp, fun id k hs => by unfold Sn at hs; simp at hs, fun i j k l b C C' hi => by unfold Sn at hi; simp at hi, fun i _ => hι i, fun a v e => .inl e, fun i h => h.elim, hgl⟩
      refine (body_sound (own := []) hm hF hD hfn hS h3 hR (decs_rel hx hl) (by rw [encs_length]; exact Nat.le_of_ble_eq_true hn)).mono ?_
      rintro e w' ⟨u, r', rfl, k1, k2, k3⟩
      have hb : Below w.heap.size w w' := ⟨k2.os, k2.tape, k2.output, k2.size, fun b hb => k2.base b hb (fun h => h)⟩
      let rF : Res := { H := fun a => if w.heap.size ≤ a.block then w'.cell? a else none, ι := fun _ => none }
      refine ⟨u, rF, rfl, hb, fun a x e => ?_, fun _ => rfl, decR_rel h4 ?_⟩
      · have e : (if w.heap.size ≤ a.block then w'.cell? a else none) = some x := e
        split at e
        · rename_i hge; exact ⟨e, hge⟩
        · cases e
      · have hFF : ∀ a x, w'.cell? a = some x → w.heap.size ≤ a.block → rF.H a = some x := fun a x e hge => by
          show (if w.heap.size ≤ a.block then w'.cell? a else none) = some x
          rw [if_pos hge]; exact e
        exact fresh_rel k2 hFF v0 u hfr k3
    · exact (run_fail h4).elim
  · exact (run_fail hv).elim

theorem entry_run {ps rs : List Ty} {t : dens ps → T (dens rs)} (args : List AV) (v : AV) (h : (entry ps (outR rs) (fun x => .opt (t x).run .ret) args).run = some v) : (entry ps (outR rs) t args).run = some v := by
  unfold entry at h ⊢
  split at h
  · rename_i x hx
    obtain ⟨y, h1, h2⟩ := run_bind h
    cases run_ret h2
    obtain ⟨z, h3, h4⟩ := run_opt h1
    cases run_ret h4
    show ((t x).bind fun y => T.ret (outR rs y)).run = _
    rw [tr_bind, h3]; rfl
  · exact (run_fail h).elim

/-- .. as a callee whose arguments may lead to own blocks. -/
def freshD (c : List AV → T AV) (args : List AV) (own : List Blk) : T (AV × List Blk) := (c (args.map (AV.frz own 6))).bind fun x => .ret (x, own)

theorem fresh_deep {P : Program} {g : Nat} {c : List AV → T AV} (h : FrOK P g c) : ∀ args own v own', (freshD c args own).run = some (v, own') → callable P g = true ∧ ∀ (w0 : Base P) (M : Nat → Prop) (r : Res) (w : World) (us : List Value), Rel w0 M (Sn own) own r w → LRel r args us →
      Calls P g us.toArray w fun e w' => ∃ u r', e = .returned u ∧ r.le r' ∧ Rel w0 M (Sn own') own' r' w' ∧ VRel r' v u := by
  intro args own v own' hv
  obtain ⟨x, h1, h2⟩ := run_bind hv
  cases run_ret h2
  obtain ⟨hc, hk⟩ := h _ _ h1
  refine ⟨hc, fun w0 M r w us hR hl => ?_⟩
  have hl2 : LRel (Res.all w) (args.map (AV.frz own 6)) us := LRel.map' (fun v u k => frz_rel (rb := Res.all w) hR (fun _ _ => rfl) hR.pers (fun _ _ _ _ _ _ _ _ _ e => e) 6 v u k) hl
  refine (hk (Res.all w) w us (fun _ => rfl) (fun _ _ e => e) (fun a u e => hR.pers a u (hR.glob a u e)) hl2).mono ?_
  rintro e w' ⟨u, r1, rfl, hb, k1, k2, k3⟩
  have hlt : ∀ {a v}, r.H a = some v → a.block < w.heap.size := fun {a v} e => by
    have hc := hR.pers a v e
    rcases Nat.lt_or_ge a.block w.heap.size with h | h
    · exact h
    · simp [World.cell?, Array.getElem?_eq_none h] at hc
  let r2 : Res := { H := fun a => if a.block < w.heap.size then r.H a else r1.H a, ι := r.ι }
  have hle : r.le r2 := ⟨fun a v e => by
    show (if a.block < w.heap.size then r.H a else r1.H a) = _
    rw [if_pos (hlt e)]; exact e, fun _ _ e => e⟩
  have hle1 : r1.le r2 := ⟨fun a v e => by
    show (if a.block < w.heap.size then r.H a else r1.H a) = _
    rw [if_neg (Nat.not_lt.2 (k1 a v e).2)]; exact e, fun i p e => by rw [k2] at e; cases e⟩
  refine ⟨u, r2, rfl, hle, hR.below (H' := r2.H) hb hle.H (fun a v e => ?_) (fun a v e => ?_), k3.mono hle1⟩
  · have e : (if a.block < w.heap.size then r.H a else r1.H a) = some v := e
    split at e
    · rename_i hlt'
      rw [← hR.pers a v e]
      exact World.cell?_of_block (hb.block _ hlt')
    · exact (k1 a v e).1
  · have e : (if a.block < w.heap.size then r.H a else r1.H a) = some v := e
    split at e
    · exact .inl e
    · exact .inr (k1 a v e).2
end Go.Proofs.Pen

namespace Go.Proofs.Pen
open Go RowKit

/-! ### Callees whose results become data that nobody changes -/
theorem Sn_aside (U : List Nat) (own : List Blk) : Sn (aside U own) = Sn own := by
  funext i
  unfold Sn aside
  rw [List.length_map, List.length_zipIdx]

def frzCall (Z : List Nat) (f : Nat → List AV → List Blk → T (AV × List Blk)) (g : Nat) (args : List AV) (own : List Blk) : T (AV × List Blk) :=
  match inL Z g with
  | true => (f g args own).bind fun x => .ret (AV.frz (aside (hideQ x.1.ids x.2.length) x.2) 6 x.1, aside x.1.ids x.2)
  | false => f g args own

theorem frz_deep {P : Program} {f : Nat → List AV → List Blk → T (AV × List Blk)} (hf : DeepOK P f) (Z : List Nat) : DeepOK P (frzCall Z f) := by
  intro g args own v own' h
  unfold frzCall at h
  split at h
  · obtain ⟨⟨x, o⟩, h1, h2⟩ := run_bind h
    cases run_ret h2
    obtain ⟨hc, hk⟩ := hf g args own x o h1
    refine ⟨hc, fun w0 M r w us hR hl => (hk w0 M r w us hR hl).mono ?_⟩
    rintro e w' ⟨u, r', rfl, k1, k2, k3⟩
    obtain ⟨r2, q1, q2, q3⟩ := k2.freeze x.ids
    refine ⟨u, r2, rfl, k1.trans q1, ?_, q3 _ _ k3⟩
    rw [Sn_aside]
    exact q2
  · exact hf g args own v own' h

/-- As 'dpT'; what the functions of 'Z' give becomes data. -/
def dpZ (P : Program) (q : Nat → List AV → T AV) (X : Deeps) (Z : List Nat) (TB : DTab) (fuel : Nat) : Nat → Fns
  | 0 => { quiet := q, deep := tabD TB noDeep, fuel := fuel, frz := X.frz, frc := X.frc }
  | d + 1 => { quiet := q, deep := tabD TB (frzCall Z (dpCall P X (dpZ P q X Z TB fuel d))), fuel := fuel, frz := X.frz, frc := X.frc }

theorem dpZ_ok {P : Program} (hm : P.follows .mixedOrders = true) {q : Nat → List AV → T AV} (hq : QuietOK P q) {X : Deeps} (hX : LoopsOK P X.S) (Z : List Nat) {TB : DTab} (hT : TBOK P TB) (fuel : Nat) : ∀ d, QuietOK P (dpZ P q X Z TB fuel d).quiet ∧ DeepOK P (dpZ P q X Z TB fuel d).deep
  | 0 => ⟨hq, tabD_ok hT (deep_none P)⟩
  | d + 1 => by
    obtain ⟨hF, hD⟩ := dpZ_ok hm hq hX Z hT fuel d
    refine ⟨hq, tabD_ok hT (frz_deep ?_ Z)⟩
    intro g args own v own' h
    unfold dpCall at h
    split at h
    · split at h
      · rename_i fn hfn
        split at h
        · rename_i hc
          simp only [Bool.and_eq_true] at hc
          exact ⟨hc.1, fun w0 M r w us hR hl => body_sound (F := { dpZ P q X Z TB fuel d with ctrl := inL X.C g }) hm hF hD hfn (fun c hb => hX g fn c _ hfn hb) h hR hl (Nat.le_of_ble_eq_true hc.2)⟩
        · exact (run_fail h).elim
      · exact (run_fail h).elim
    · exact (run_fail h).elim
end Go.Proofs.Pen
