/- A part of the proof that the law HitVisits is true of every input: an evaluator of the program and its proof. -/
import Derived.MapKept
import GoSem.Builtin.Copy
import Derived.Test.YtncgifjccpngfaaGreatPenKit0
namespace Go.Proofs.Pen
open Go RowKit

def EsRel (es : List MapEntry) (l : List (ByteArray × Bool)) : Prop := es.map (fun e => (e.key, e.val)) = l.map fun x => (Value.string x.1, Value.bool x.2)
def mfind : List (ByteArray × Bool) → ByteArray → Nat → Option (Nat × Bool)
  | [], _, _ => none
  | x :: l, k, i => if x.1 == k then some (i, x.2) else mfind l k (i + 1)

theorem ba_beq (a b : ByteArray) : (a == b) = true ↔ a = b := by
  constructor
  · intro h
    have h : (a.data == b.data) = true := h
    cases a; cases b
    simpa using h
  · rintro rfl
    show (a.data == a.data) = true
    simp

theorem findNow_rel {s : ByteArray} : ∀ (es : List MapEntry) (l : List (ByteArray × Bool)) (i : Nat), EsRel es l → Instr.findNow .string (.string s) es i = some ((mfind l s i).map fun p => (p.1, Value.bool p.2))
  | [], [], _, _ => rfl
  | [], _ :: _, _, h => by simp [EsRel] at h
  | _ :: _, [], _, h => by simp [EsRel] at h
  | e :: es, x :: l, i, h => by
    simp only [EsRel, List.map_cons, List.cons.injEq, Prod.mk.injEq] at h
    obtain ⟨⟨h1, h2⟩, h3⟩ := h
    have ih := findNow_rel (s := s) es l (i + 1) h3
    unfold Instr.findNow mfind
    rw [h1]
    simp only [Instr.sameNow]
    by_cases hx : x.1 = s
    · subst hx
      have e1 : (x.1 == x.1) = true := (ba_beq _ _).2 rfl
      rw [e1]; simp [h2]
    · have e1 : (s == x.1) = false := Bool.eq_false_iff.2 fun e => hx ((ba_beq _ _).1 e).symm
      have e2 : (x.1 == s) = false := Bool.eq_false_iff.2 fun e => hx ((ba_beq _ _).1 e)
      rw [e1, e2]
      simpa using ih

theorem mfind_get : ∀ (l : List (ByteArray × Bool)) (s : ByteArray) (i : Nat), (mfind l s i).map (·.2) = mget l s
  | [], _, _ => rfl
  | x :: l, s, i => by
    unfold mfind mget
    split
    · rfl
    · exact mfind_get l s (i + 1)

theorem mset_none : ∀ (l : List (ByteArray × Bool)) (s : ByteArray) (v : Bool) (i : Nat), mfind l s i = none → mset l s v = l ++ [(s, v)]
  | [], _, _, _, _ => rfl
  | x :: l, s, v, i, h => by
    unfold mfind at h
    unfold mset
    split at h
    · cases h
    · rename_i hx
      rw [if_neg hx, mset_none l s v (i + 1) h]; rfl

theorem mset_some : ∀ (es : List MapEntry) (l : List (ByteArray × Bool)) (s : ByteArray) (v : Bool) (i j : Nat) (b : Bool), EsRel es l → mfind l s i = some (j, b) →
    i ≤ j ∧ (∃ e, es[j - i]? = some e ∧ e.key = .string s) ∧ EsRel (es.modify (j - i) fun e => { e with key := .string s, val := .bool v }) (mset l s v)
  | [], [], _, _, _, _, _, _, h => by cases h
  | [], _ :: _, _, _, _, _, _, h, _ => by simp [EsRel] at h
  | _ :: _, [], _, _, _, _, _, h, _ => by simp [EsRel] at h
  | e :: es, x :: l, s, v, i, j, b, hr, h => by
    have hr' := hr
    simp only [EsRel, List.map_cons, List.cons.injEq, Prod.mk.injEq] at hr'
    obtain ⟨⟨h1, h2⟩, h3⟩ := hr'
    unfold mfind at h
    unfold mset
    split at h
    · rename_i hx
      cases h
      have hx' : x.1 = s := (ba_beq _ _).1 hx
      rw [if_pos hx, Nat.sub_self]
      refine ⟨Nat.le_refl _, ⟨e, rfl, by rw [h1, hx']⟩, ?_⟩
      simp only [EsRel, List.modify_zero_cons, List.map_cons, List.cons.injEq, true_and]
      exact h3
    · rename_i hx
      obtain ⟨k1, ⟨e', k2, k3⟩, k4⟩ := mset_some es l s v (i + 1) j b h3 h
      have e0 : j - i = (j - (i + 1)) + 1 := by omega
      rw [if_neg hx, e0]
      refine ⟨by omega, ⟨e', by simpa using k2, k3⟩, ?_⟩
      simp only [EsRel, List.modify_succ_cons, List.map_cons, List.cons.injEq, Prod.mk.injEq]
      exact ⟨⟨h1, h2⟩, k4⟩

section
variable {P : Program}
theorem isMapT_some {t : TypeId} (h : isMapT P t = true) : ∃ k e, P.underlying t = some (.map k e) ∧ P.underlying k = some .string ∧ zeroV P e = some .ff := by
  unfold isMapT at h
  split at h
  · rename_i k e hu
    split at h
    · rename_i h1 h2
      exact ⟨k, e, hu, h1, h2⟩
    · cases h
  · cases h

theorem run_checkKey_str {w : World} {k : TypeId} (hk : P.underlying k = some .string) (b : Bool) (s : ByteArray) : (Instr.checkKey b 10000 k (.string s)).run P w = .ok () w := by
  rw [show (10000 : Nat) = 9999 + 1 from rfl, Instr.checkKey]
  simp [run_underlying' hk]

theorem run_findKey_str {w : World} {k : TypeId} (hk : P.underlying k = some .string) {s : ByteArray} {es : List MapEntry} {l : List (ByteArray × Bool)} (h : EsRel es l) :
    (Instr.findKey k (.string s) es).run P w = .ok ((mfind l s 0).map fun p => (p.1, Value.bool p.2)) w := by
  unfold Instr.findKey
  simp [run_underlying' hk, findNow_rel es l 0 h]

theorem zero_ff {w : World} {e : TypeId} (h : zeroV P e = some .ff) : (zeroValue e).run P w = .ok (.bool false) w := by
  unfold zeroV at h
  cases hi : P.info? e with
  | none => simp [hi] at h
  | some i =>
    simp only [hi, Option.bind_some] at h
    cases hz : i.zero with
    | none => simp [hz] at h
    | some z =>
      have : z = .bool false := by
        have hff : ∀ v, ofConst v = .ff → v = .bool false := fun v hv => by
          unfold ofConst at hv
          split at hv <;> first | rfl | cases hv
        rw [hz] at h
        split at h
        · cases h
        · rename_i v _ e
          cases e
          exact hff _ (Option.some.inj h)
        · cases h
      subst this
      simp [zeroValue, typeInfo, program, Sem.run, hi, hz]

theorem lookup_gives {w : World} {t : TypeId} {b : Nat} {es : Array MapEntry} {c : Nat} {l : List (ByteArray × Bool)} (ht : isMapT P t = true) (hb : w.heap[b]? = some (.map es c)) (hr : EsRel es.toList l) (s : ByteArray) (ok : Bool) :
    (Instr.lookup t (.map (some b)) (.string s) ok).run P w = .ok (match ok with
      | true => .tuple #[.bool ((mget l s).getD false), .bool (mget l s).isSome]
      | false => .bool ((mget l s).getD false)) w := by
  obtain ⟨k, e, hu, hk, hz⟩ := isMapT_some ht
  unfold Instr.lookup
  simp only [Sem.run_bind, run_underlying' hu, Result.andThen, MapKept.run_getObj_map hb, run_checkKey_str hk, run_findKey_str hk hr, Sem.run_pure]
  rw [← mfind_get l s 0]
  cases mfind l s 0 with
  | none => cases ok <;> simp [zero_ff hz]
  | some p => cases ok <;> simp

theorem update_gives {w : World} {t : TypeId} {b : Nat} {es : Array MapEntry} {c : Nat} {l : List (ByteArray × Bool)} (ht : isMapT P t = true) (hb : w.heap[b]? = some (.map es c)) (hr : EsRel es.toList l) (s : ByteArray) (v : Bool) :
    ∃ es' c', (Instr.mapUpdate t (.map (some b)) (.string s) (.bool v)).run P w = .ok () (setBlk w b (.map es' c')) ∧ EsRel es'.toList (mset l s v) := by
  obtain ⟨k, e, hu, hk, hz⟩ := isMapT_some ht
  unfold Instr.mapUpdate
  simp only [Sem.run_bind, run_underlying' hu, Result.andThen, MapKept.run_getObj_map hb, run_checkKey_str hk, run_findKey_str hk hr]
  cases hm : mfind l s 0 with
  | none =>
    refine ⟨es.push { key := .string s, val := .bool v, born := c }, c + 1, ?_, ?_⟩
    · simp [MapKept.run_setObj_map _ hb, setBlk]
    · rw [mset_none l s v 0 hm]
      simp only [EsRel, Array.toList_push, List.map_append, List.map_cons, List.map_nil]
      rw [show es.toList.map (fun e => (e.key, e.val)) = _ from hr]
  | some p =>
    obtain ⟨_, ⟨e0, k2, k3⟩, k4⟩ := mset_some es.toList l s v 0 p.1 p.2 hr hm
    rw [Nat.sub_zero] at k2 k4
    have k2' : es[p.1]? = some e0 := by rw [← Array.getElem?_toList]; exact k2
    refine ⟨es.modify p.1 fun e => { e with key := .string s, val := .bool v }, c, ?_, ?_⟩
    · have hs : Instr.sameBits 10000 (.string s) (.string s) = true := by
        unfold Instr.sameBits; exact (ba_beq _ _).2 rfl
      simp [k2', k3, Instr.keyThatStays, hs, MapKept.run_setObj_map _ hb, setBlk]
    · rw [Array.toList_modify]; exact k4
end
end Go.Proofs.Pen

namespace Go.Proofs.Pen
open Go RowKit

section
variable {P : Program} {own own' : List Blk} {e : Operand → AV} {o : Oper} {v : AV}

theorem callable_some {g : Nat} (h : callable P g = true) : ∃ fn, P.funcs[g]? = some fn ∧ fn.name ≠ "runtime.NumGoroutine" ∧ fn.body.isSome = true := by
  unfold callable at h
  split at h
  · rename_i fn hfn
    simp only [Bool.and_eq_true, bne_iff_ne] at h
    exact ⟨fn, hfn, h.1, h.2⟩
  · cases h

theorem run_callFunc {w : World} {g : Nat} (h : callable P g = true) (args : Array Value) : (callFunc g args).run P w = .ok (.enter g args) w := by
  obtain ⟨fn, h1, h2, h3⟩ := callable_some h
  have h4 : fn.body ≠ none := by intro e; rw [e] at h3; cases h3
  simp [callFunc, program, Sem.run, h1, h2, h4]

theorem run_callValue' {w : World} {a : Act} {f : Operand} {xs : Array Operand} {ts : Array TypeId} {first caps : List Value} {g : Nat} (ho : o.op = .call { callee := .value f, args := xs, argTypes := ts })
    (hf : a.eval f = .func (.func g) first.toArray caps.toArray) :
    (execOp a.eval o).run P w = (callFunc g (first ++ xs.toList.map a.eval ++ caps).toArray).run P w := by
  have e1 : execOp a.eval o = (do let d ← resolve a.eval { callee := .value f, args := xs, argTypes := ts } o.type; invoke d.target d.args) := by
    unfold execOp; rw [ho]
  have e2 : first.toArray ++ Array.map a.eval xs ++ caps.toArray = (first ++ xs.toList.map a.eval ++ caps).toArray := by
    apply Array.ext'; simp
  rw [e1]
  simp only [Sem.run_bind, resolve, Deferred.ofValue, hf, Sem.run_pure, Result.andThen, invoke]
  rw [e2]

theorem run_callValue {w : World} {a : Act} {f : Operand} {xs : Array Operand} {ts : Array TypeId} {first caps : List Value} {g : Nat} (ho : o.op = .call { callee := .value f, args := xs, argTypes := ts })
    (hf : a.eval f = .func (.func g) first.toArray caps.toArray) (hg : callable P g = true) :
    (execOp a.eval o).run P w = .ok (.enter g (first ++ xs.toList.map a.eval ++ caps).toArray) w := by
  rw [run_callValue' ho hf, run_callFunc hg]

theorem callOf_rel {r : Res} {f : AV} {vf : Value} {args : List AV} {us : List Value} {g : Nat} {l : List AV} (h : callOf f args = some (g, l)) (hf : VRel r f vf) (hl : LRel r args us) :
    ∃ first caps : List Value, vf = .func (.func g) first.toArray caps.toArray ∧ LRel r l (first ++ us ++ caps) := by
  unfold callOf at h
  split at h
  · simp at h
    obtain ⟨rfl, rfl⟩ := h
    simp only [VRel] at hf
    obtain ⟨us', ws, rfl, h1, h2⟩ := hf
    exact ⟨us', ws, rfl, by simpa using (h1.append hl).append h2⟩
  · simp at h

theorem quiet_go {F : Fns} (hF : QuietOK P F.quiet) {w0 : Base P} {M S : Nat → Prop} {ownF : List Blk} {r : Res} {w : World} {a : Act} {g : Nat} {l : List AV} {us : List Value} (hrun : (execOp a.eval o).run P w = (callFunc g us.toArray).run P w) (hll : LRel r l us) (ha : Agree own ownF)
    (hR : Rel w0 M S ownF r w) (h : (if noOwnL l then F.quiet g l else (F.quiet g (l.map (AV.frz own 6))).bind fun x => if scalar x then .ret x else .fail).run = some v) :
    Yields P o a w fun u w' => ∃ r', r.le r' ∧ Rel w0 M (fun i => S i ∨ (own.length ≤ i ∧ i < own.length)) ownF r' w' ∧ VRel r' v u := by
  have same : Rel w0 M (fun i => S i ∨ (own.length ≤ i ∧ i < own.length)) ownF r w := hR.congr fun i => ⟨.inl, fun h => by rcases h with h | h; exact h; omega⟩
  split at h
  · rename_i hn
    rcases hF _ _ _ h with ⟨hg, hcalls⟩ | hex
    · refine .call (by rw [hrun, run_callFunc hg]) ((hcalls { H := r.H, ι := fun _ => none } w _ (fun _ => rfl) hR.pers hR.glob (noOwn_relL (r := r) (r' := { H := r.H, ι := fun _ => none }) rfl _ _ hn hll)).mono ?_)
      rintro e' w' ⟨u, r', rfl, hle, hb, h1, h2, h3, hv⟩
      refine ⟨u, rfl, { H := r'.H, ι := r.ι }, ⟨hle.H, fun _ _ e => e⟩, (hR.below hb hle.H h1 h2).congr fun i => ⟨.inl, fun h => ?_⟩, ?_⟩
      · rcases h with h | h
        · exact h
        · omega
      · exact VRel.mono (r := r') (r' := { H := r'.H, ι := r.ι }) ⟨fun _ _ e => e, fun i p e => by rw [h3] at e; cases e⟩ _ _ hv
    · obtain ⟨u, w', e1, hw, e2⟩ := hex r w us hll
      exact .value (by rw [hrun, e1]) ⟨r, .refl r, same.same hw, e2⟩
  · obtain ⟨x, h1, h2⟩ := run_bind h
    split at h2
    · rename_i hs
      have := run_ret h2; subst this
      have hfr : LRel (Res.all w) (l.map (AV.frz own 6)) us := LRel.map' (frz_rel hR ha hR.pers (fun _ _ _ _ _ _ _ _ _ e => e) 6) hll
      rcases hF _ _ _ h1 with ⟨hg, hcalls⟩ | hex
      · refine .call (by rw [hrun, run_callFunc hg]) ((hcalls (Res.all w) w _ (fun _ => rfl) (fun _ _ e => e) (fun a u e => hR.pers a u (hR.glob a u e)) hfr).mono ?_)
        rintro e' w' ⟨u, r', rfl, hle, hb, k1, k2, k3, hv⟩
        refine ⟨u, rfl, r, .refl r, (hR.below (H' := r.H) hb (fun _ _ e => e) (fun a v e => ?_) (fun _ _ e => .inl e)).congr fun i => ⟨.inl, fun h => ?_⟩, scalar_rel _ _ hs hv⟩
        · exact k1 a v (hle.H a v (hR.pers a v e))
        · rcases h with h | h
          · exact h
          · omega
      · obtain ⟨u, w', e1, hw, e2⟩ := hex _ w us hfr
        exact .value (by rw [hrun, e1]) ⟨r, .refl r, same.same hw, scalar_rel _ _ hs e2⟩
    · exact (run_fail h2).elim

theorem quiet_call {F : Fns} (hF : QuietOK P F.quiet) {f : Operand} {xs : Array Operand} {ts : Array TypeId} (ho : o.op = .call { callee := .value f, args := xs, argTypes := ts })
    (h : (match callOf (e f) (xs.toList.map e) with
      | some (g, l) => if noOwnL l then F.quiet g l else (F.quiet g (l.map (AV.frz own 6))).bind fun x => if scalar x then .ret x else .fail
      | none => .fail).run = some v) : QuietAt P own e o v own := by
  refine ⟨⟨[], by simp⟩, fun w0 M S ownF r w a ha _ hR hx hl => ?_⟩
  split at h
  · rename_i g l hc
    obtain ⟨first, caps, hvf, hll⟩ := callOf_rel hc (hx f) (lrel hx xs.toList)
    exact quiet_go hF (run_callValue' ho hvf) hll ha hR h
  · exact (run_fail h).elim

theorem invOf_rel {r : Res} {w : World} {name : String} {x : AV} {vx : Value} {args : List AV} {us : List Value} {g : Nat} {l : List AV} (h : invOf P name x args = some (g, l)) (hx : VRel r x vx) (hl : LRel r args us) :
    ∃ us', (callMethod vx name us.toArray).run P w = (callFunc g us'.toArray).run P w ∧ LRel r l us' := by
  unfold invOf at h
  split at h
  · rename_i t v
    simp only [VRel] at hx
    obtain ⟨u, rfl, hv⟩ := hx
    split at h
    · rename_i m hm
      rw [Option.bind_eq_some_iff] at hm
      obtain ⟨i, hi, hfind⟩ := hm
      have hdp : 0 < Made.depth := by decide
      have hz : ∃ z, P.types.size + Made.depth = z + 1 := ⟨P.types.size + Made.depth - 1, by omega⟩
      obtain ⟨z, hz⟩ := hz
      split at h
      · rename_i f ptr e hp hf hu
        split at h
        · rename_i hptr
          cases h
          refine ⟨u :: us, ?_, by simp only [LRel]; exact ⟨u, us, rfl, hv, hl⟩⟩
          subst hptr
          simp [callMethod, program, Sem.run, hz, method, typeInfo, hi, hfind, hp, follow, hf, receiverAt, run_underlying' hu, Place.get]
        · cases h
      · rename_i f ptr d hne hp hf hu
        split at h
        · cases h
        · rename_i hptr
          cases h
          refine ⟨u :: us, ?_, by simp only [LRel]; exact ⟨u, us, rfl, hv, hl⟩⟩
          have hptr : ptr = false := by simpa using hptr
          subst hptr
          simp [callMethod, program, Sem.run, hz, method, typeInfo, hi, hfind, hp, follow, hf, receiverAt, run_underlying' hu, Place.get]
      · cases h
    · cases h
  · cases h

theorem quiet_invoke {F : Fns} (hF : QuietOK P F.quiet) {x : Operand} {name : String} {xs : Array Operand} {ts : Array TypeId} (ho : o.op = .call { callee := .invoke x name, args := xs, argTypes := ts })
    (h : (match e x with
      | .er tf te y => T.ite y.isFault (invT P F.quiet own name (erFault tf te y) (xs.toList.map e)) (T.ite y.isCode (invT P F.quiet own name (erCode te y) (xs.toList.map e)) T.fail)
      | y => invT P F.quiet own name y (xs.toList.map e)).run = some v) : QuietAt P own e o v own := by
  refine ⟨⟨[], by simp⟩, fun w0 M S ownF r w a ha _ hR hx hl => ?_⟩
  have hxx := hx x
  obtain ⟨z, hz, hzx⟩ : ∃ z, (invT P F.quiet own name z (xs.toList.map e)).run = some v ∧ VRel r z (a.eval x) := by
    split at h
    · rename_i tf te y hy
      rw [hy] at hxx
      rcases run_ite h with ⟨h1, h⟩ | ⟨_, h⟩
      · refine ⟨_, h, ?_⟩
        cases y <;> first | cases h1; done | skip
        simp only [VRel] at hxx
        rw [hxx]
        simp only [erFault, errVal, VRel, LRel, ErrD.faultC, ErrD.faultL, ErrD.faultE]
        exact ⟨_, rfl, _, rfl, _, _, rfl, rfl, _, _, rfl, rfl, _, _, rfl, rfl, rfl⟩
      · rcases run_ite h with ⟨h1, h⟩ | ⟨_, h⟩
        · refine ⟨_, h, ?_⟩
          cases y <;> first | cases h1; done | skip
          simp only [VRel] at hxx
          rw [hxx]
          simp only [erCode, errVal, VRel, ErrD.codeOf]
          exact ⟨_, rfl, rfl⟩
        · exact (run_fail h).elim
    · exact ⟨_, h, hxx⟩
  clear h
  have h := hz
  unfold invT at h
  split at h
  · rename_i g l hc
    obtain ⟨us', hrun, hll⟩ := invOf_rel (P := P) (w := w) hc hzx (lrel hx xs.toList)
    refine quiet_go hF ?_ hll ha hR h
    rw [← hrun]
    have e1 : execOp a.eval o = (do let d ← resolve a.eval { callee := .invoke x name, args := xs, argTypes := ts } o.type; invoke d.target d.args) := by
      unfold execOp; rw [ho]
    have e2 : (#[a.eval x] ++ Array.map a.eval xs)[0]? = some (a.eval x) := by
      rw [Array.getElem?_append_left (by simp)]; rfl
    have e3 : (#[a.eval x] ++ Array.map a.eval xs).extract 1 (#[a.eval x] ++ Array.map a.eval xs).size = (xs.toList.map a.eval).toArray := by
      apply Array.ext'
      rw [Array.toList_extract]
      simp [List.extract_eq_take_drop]
      exact List.take_of_length_le (by simp)
    rw [e1]
    simp only [Sem.run_bind, resolve, Sem.run_pure, Result.andThen, invoke, e2, e3]
  · exact (run_fail h).elim

end

theorem bytesRow_at {s : ByteArray} {c i : Nat} {x : Int} (hi : (bytesOf s)[i]? = some x) : (bytesRow s c)[i]? = some (.int .u8 x) := by
  unfold bytesOf at hi
  rw [List.getElem?_map] at hi
  cases hb : s.data.toList[i]? with
  | none => rw [hb] at hi; simp at hi
  | some y =>
    rw [hb] at hi
    have hi' : ((y.toNat : Nat) : Int) = x := Option.some.inj hi
    have hlt : i < s.data.toList.length := (List.getElem?_eq_some_iff.1 hb).1
    rw [← Array.getElem?_toList]
    simp only [bytesRow, Array.toList_append, Array.toList_map]
    rw [List.getElem?_append_left (by simpa using hlt), List.getElem?_map, hb]
    simp [hi']

theorem frz_bytes {P : Program} {own : List Blk} {e : Operand → AV} {o : Oper} {src dst el : TypeId} {x : Operand} {s : ByteArray} (ho : o.op = .convert src dst x) (he : e x = .sr s) (hs : P.underlying src = some .string) (hd : P.underlying dst = some (.slice el)) (h8 : isU8 P el = true) :
    QuietAt P own e o (.sl (.int .u8) (bytesOf s)) own := by
  refine ⟨⟨[], by simp⟩, fun w0 M S ownF r w a ha _ hR hx hl => ?_⟩
  have hx := hx x
  rw [he] at hx
  simp only [VRel] at hx
  have hge := grownCap_ge w s.size 0 el
  let ob : Obj := .cells (bytesRow s (grownCap w s.size 0 el)) el ((bytesRow s (grownCap w s.size 0 el)).size, (bytesRow s (grownCap w s.size 0 el)).size + 1)
  have hrun : (execOp a.eval o).run P w = .ok (.value (.slice (some ⟨w.heap.size, 0, none⟩) s.size (grownCap w s.size 0 el))) (w.drew.alloc ob) := by
    unfold execOp; rw [ho]; dsimp only; rw [hx, Sem.run_bind, run_bytes_of_string w src dst el s hs hd (isU8_some h8)]
    simp [Result.andThen, ob]
  have hheap : ∀ b, b < w.heap.size → (w.drew.alloc ob).heap[b]? = w.heap[b]? := fun b hb => by
    show (w.heap.push ob)[b]? = _
    rw [Array.getElem?_push, if_neg (by omega)]
  have hnew : (w.drew.alloc ob).heap[w.heap.size]? = some ob := by
    show (w.heap.push ob)[w.heap.size]? = _
    simp
  have hbel : Below w.heap.size w (w.drew.alloc ob) := ⟨rfl, rfl, ⟨rfl, Nat.le_succ _⟩, by show w.heap.size ≤ (w.heap.push ob).size; simp, hheap⟩
  have hlt : ∀ a v, r.H a = some v → a.block < w.heap.size := fun a v e => by
    have := hR.pers a v e
    unfold World.cell? at this
    apply Classical.byContradiction; intro hn
    rw [Array.getElem?_eq_none (by omega)] at this; cases this
  let H' : Addr → Option Value := fun a => if a.block = w.heap.size then (w.drew.alloc ob).cell? a else r.H a
  have h1 : ∀ a v, r.H a = some v → H' a = some v := fun a v e => by
    have := hlt a v e
    show (if a.block = w.heap.size then _ else _) = _
    rw [if_neg (by omega)]; exact e
  have hRn := hR.below (H' := H') hbel h1 (fun a v e => by
    by_cases ha : a.block = w.heap.size
    · have e : (if a.block = w.heap.size then (w.drew.alloc ob).cell? a else r.H a) = some v := e
      rwa [if_pos ha] at e
    · have e : (if a.block = w.heap.size then (w.drew.alloc ob).cell? a else r.H a) = some v := e
      rw [if_neg ha] at e
      rw [← hR.pers a v e]
      exact World.cell?_of_block (hheap _ (hlt a v e))) (fun a v e => by
    by_cases ha : a.block = w.heap.size
    · exact .inr (by omega)
    · have e : (if a.block = w.heap.size then (w.drew.alloc ob).cell? a else r.H a) = some v := e
      rw [if_neg ha] at e; exact .inl e)
  have hlen : (bytesOf s).length = s.size := by simp [bytesOf]
  refine .value hrun ⟨{ H := H', ι := r.ι }, ⟨h1, fun _ _ e => e⟩, hRn.congr fun i => ⟨.inl, fun h => by rcases h with h | h; exact h; omega⟩, ?_⟩
  simp only [VRel]
  refine ⟨some ⟨w.heap.size, 0, none⟩, grownCap w s.size 0 el, (congrArg (fun n : Nat => Value.slice (some ⟨w.heap.size, 0, none⟩) n (grownCap w s.size 0 el)) hlen).symm, Nat.le_trans (Nat.le_of_eq hlen) hge, fun _ => ⟨_, rfl, fun i x hi => ⟨[.int .u8 x], rfl, rfl, fun j u hj => ?_⟩⟩⟩
  cases j with
  | succ j => simp at hj
  | zero =>
    simp at hj; subst hj
    rw [add_none, add_none]
    show (if w.heap.size = w.heap.size then (w.drew.alloc ob).cell? _ else _) = _
    rw [if_pos rfl]
    have hob : (w.drew.alloc ob).heap[w.heap.size]? = some (.cells ((bytesRow s (grownCap w s.size 0 el)).toList).toArray el ((bytesRow s (grownCap w s.size 0 el)).size, (bytesRow s (grownCap w s.size 0 el)).size + 1)) := by rw [hnew]
    rw [cell_at hob, Array.getElem?_toList]
    have := bytesRow_at (c := grownCap w s.size 0 el) hi
    simpa [Ty.sz] using this

theorem zeroCut_some {lo hi mx : Option Operand} (h : zeroCut lo hi mx = true) : lo = none ∧ ∃ x y, hi = some x ∧ mx = some y ∧ litInt x = some 0 ∧ litInt y = some 0 := by
  unfold zeroCut at h
  split at h
  · rename_i x y
    split at h
    · rename_i h1 h2; exact ⟨rfl, x, y, rfl, rfl, h1, h2⟩
    · cases h
  · cases h

theorem sliceOf_rel {r : Res} {v : AV} {u : Value} {a : Ty} (h : sliceOf v = some a) (hv : VRel r v u) : ∃ p len c, u = .slice p len c ∧ len ≤ c := by
  unfold sliceOf at h
  split at h
  · simp only [VRel] at hv; obtain ⟨p, c, rfl, hl, _⟩ := hv; exact ⟨p, _, c, rfl, hl⟩
  · simp only [VRel] at hv; obtain ⟨p, rfl, _⟩ := hv; exact ⟨p, _, _, rfl, Nat.le_refl _⟩
  · simp only [VRel] at hv; obtain ⟨p, c, rfl, hl, _⟩ := hv; exact ⟨p, _, c, rfl, hl⟩
  · cases h

theorem Rel.emptyRow {P : Program} {w0 : Base P} {w : World} {M S : Nat → Prop} {ownF : List Blk} {r : Res} (h : Rel w0 M S ownF r w) {id : Nat} {t : Ty} (hid : ¬ S id) (hk : ownF[id]? = some (.row t [])) : Rel w0 M (fun i => S i ∨ i = id) ownF r w where
  os := h.os
  tape := h.tape
  output := ⟨h.output.out, h.output.drawn⟩
  size := h.size
  base := h.base
  pers := h.pers
  blk i k hs hi hl := by
    rcases hs with hs | rfl
    · exact h.blk i k hs hi hl
    · rw [hk] at hi; cases hi
      exact .inr ⟨h.dom _ hid, t, rfl⟩
  inj i j k l b C C' hi hj hk' hl' h1 h2 e1 e2 := by
    have hs : ∀ {i : Nat} {p : Nat × (Nat × Nat)}, r.ι i = some p → S i := fun e => h.there e
    exact h.inj i j k l b C C' (hs e1) (hs e2) hk' hl' h1 h2 e1 e2
  dom i hi := h.dom i fun hs => hi (.inl hs)
  up := h.up
  zero i hi := ⟨.inl (h.zero i hi).1, (h.zero i hi).2⟩
  glob := h.glob

theorem zcut_quiet {P : Program} {own : List Blk} {e : Operand → AV} {o : Oper} {ty el : TypeId} {x : Operand} {lo hi mx : Option Operand} {a : Ty} (ho : o.op = .slice ty x lo hi mx) (hz : zeroCut lo hi mx = true) (hu : P.underlying ty = some (.slice el)) (hs : sliceOf (e x) = some a) (hsz : szOk P el a = true) :
    QuietAt P own e o (.osl a own.length 0 0 (some 0)) (own ++ [.row a []]) := by
  refine ⟨⟨_, rfl⟩, fun w0 M S ownF r w ac ha hn hR hx hl => ?_⟩
  obtain ⟨rfl, h, m, rfl, rfl, h1, h2⟩ := zeroCut_some hz
  obtain ⟨p, len, c, hv, hlc⟩ := sliceOf_rel hs (hx x)
  obtain ⟨k1, e1⟩ := hl _ _ h1
  obtain ⟨k2, e2⟩ := hl _ _ h2
  have v1 := hx h
  have v2 := hx m
  rw [e1] at v1
  rw [e2] at v2
  simp only [VRel] at v1 v2
  have hid : ownF[own.length]? = some (.row a []) := by rw [ha own.length (by simp)]; simp
  have hns : ¬ S own.length := hn own.length (Nat.le_refl _) (by simp)
  have hgo : (goSlice len none (some (.it k1 0)) (some (.it k2 0)) (fun l h' _ => T.ret (.it .i64 (l + h' : Nat)))).run = some (.it .i64 0) := by
    simp [goSlice, bnd, T.run]
  obtain ⟨l, h', m1, m', q1, q2, q3, q4, q5, q6, q7⟩ := goSlice_run (P := P) (w := w) (r := r) (isS := true) (vl := none) (vh := some (.int k1 0)) (vm := some (.int k2 0)) hgo trivial (by simp [ORel, VRel]) (by simp [ORel, VRel]) hlc
  have q6 := run_ret q6
  have hlh : l = 0 ∧ h' = 0 := by
    have := (AV.it.inj q6).2
    omega
  obtain ⟨rfl, rfl⟩ := hlh
  have hm1 : m1 = 0 := by
    have e0 : (Instr.sliceBounds true len c none (some (.int k1 0)) (some (.int k2 0))).run P w = .ok (0, 0, 0) w := by
      simp (config := { decide := true }) [Instr.sliceBounds, Instr.sliceBound, asIntOf]
    rw [e0] at q1
    cases q1; rfl
  subst hm1
  have hrun : (execOp ac.eval o).run P w = .ok (.value (.slice (if (0 : Nat) = 0 then p else p.map (·.add (0 * a.sz))) 0 0)) w := by
    unfold execOp
    rw [ho]
    simp [hv, v1, v2, Instr.sliceAt, Instr.slice, run_underlying' hu, q1, run_sizeOf' (szOk_some hsz)]
  refine .value hrun ⟨r, .refl r, (hR.emptyRow hns hid).congr fun i => ?_, ?_⟩
  · simp only [List.length_append, List.length_cons, List.length_nil]
    constructor
    · rintro (h | rfl)
      · exact .inl h
      · exact .inr ⟨Nat.le_refl _, by omega⟩
    · rintro (h | ⟨h1, h2⟩)
      · exact .inl h
      · exact .inr (by omega)
  · simp only [VRel]
    exact ⟨p, 0, rfl, Nat.le_refl _, fun c' h => by cases h; rfl, .inl (by simp)⟩

theorem zeroV_rel {P : Program} {w : World} {r : Res} {t : TypeId} {v : AV} (h : zeroV P t = some v) : ∃ z, (zeroValue t).run P w = .ok z w ∧ VRel r v z := by
  unfold zeroV at h
  cases hi : P.info? t with
  | none => rw [hi] at h; simp at h
  | some i =>
    rw [hi] at h
    simp only [Option.bind_some] at h
    cases hz : i.zero with
    | none => rw [hz] at h; simp at h
    | some z =>
      refine ⟨z, by simp [zeroValue, typeInfo, program, Sem.run, hi, hz], ?_⟩
      rw [hz] at h
      split at h
      · rename_i cs e
        cases e; cases h
        simp only [VRel]
        refine ⟨cs.toList, by simp, ?_⟩
        have := LRel.map (r := r) ofConst id cs.toList fun x _ => ofConst_rel r x
        simpa using this
      · rename_i v' e1 e
        cases e; cases h
        exact ofConst_rel r _
      · rename_i e; cases e

theorem part_empty {α : Type} (p : α → Bool) : ∀ l : List α, ((l.partition p).2.isEmpty && (l.partition p).1.isEmpty) = l.isEmpty := by
  intro l
  rw [List.partition_eq_filter_filter]
  cases l with
  | nil => rfl
  | cons x l => cases hp : p x <;> simp [hp]

theorem hasAll_missing (want : Array (String × TypeId)) (got : Array Method) : (Instr.missingMethod want got).isNone = hasAll want got := by
  have hl : ∀ l : List String, (Instr.least l).isNone = l.isEmpty := by intro l; cases l <;> rfl
  have ho : ∀ a b : Option String, (a <|> b).isNone = (a.isNone && b.isNone) := by intro a b; cases a <;> rfl
  have e1 : (Instr.missingMethod want got).isNone = (want.toList.filter fun (x : String × TypeId) => !got.any fun m => m.name == x.1 && m.sig == x.2).isEmpty := by
    unfold Instr.missingMethod
    simp only [ho, hl, List.isEmpty_map]
    rw [part_empty, List.isEmpty_map]
  rw [e1]
  unfold hasAll
  have key : ∀ l : List (String × TypeId), (l.filter fun (x : String × TypeId) => !got.any fun m => m.name == x.1 && m.sig == x.2).isEmpty = l.all fun x => got.toList.any fun m => m.name == x.1 && m.sig == x.2 := by
    intro l
    induction l with
    | nil => rfl
    | cons x l ih =>
      rw [List.filter_cons, List.all_cons, ← ih]
      rw [Array.any_toList]
      cases got.any fun m => m.name == x.1 && m.sig == x.2 <;> simp
  exact key _

theorem assert_gives0 {P : Program} {w : World} {r : Res} {xt at_ : TypeId} {x v : AV} {vx : Value} (h : (assertAV0 P at_ x).run = some v) (hx : VRel r x vx) : Gives P (Instr.typeAssert vx xt at_ true) w (VRel r v) := by
  have hzero : ∀ {v : AV}, (optT ((zeroV P at_).map fun z => AV.tup [z, .ff])).run = some v → ∃ z, (zeroValue at_).run P w = .ok z w ∧ VRel r v (.tuple #[z, .bool false]) := by
    intro v h
    have h := run_optT h
    cases hz : zeroV P at_ with
    | none => rw [hz] at h; cases h
    | some z0 =>
      rw [hz] at h; cases h
      obtain ⟨z, e1, e2⟩ := zeroV_rel (w := w) (r := r) hz
      refine ⟨z, e1, ?_⟩
      simp only [VRel, LRel]
      exact ⟨[z, .bool false], rfl, z, _, rfl, e2, _, _, rfl, rfl, rfl⟩
  unfold assertAV0 at h
  split at h
  · rename_i hu
    simp only [VRel] at hx; subst hx
    obtain ⟨z, e1, e2⟩ := hzero h
    exact .of (u := .tuple #[z, .bool false]) (by simp [Instr.typeAssert, run_underlying' hu, e1]) e2
  · rename_i want t v' hu
    simp only [VRel] at hx
    obtain ⟨u, rfl, hv⟩ := hx
    split at h
    · rename_i i hi
      have hti : (typeInfo t).run P w = .ok i w := by simp [typeInfo, program, Sem.run, hi]
      split at h
      · rename_i hm
        cases run_ret h
        have hm : Instr.missingMethod want i.methods = none := by rw [← hasAll_missing] at hm; simpa using hm
        refine .of (u := .tuple #[.iface t u, .bool true]) (by simp [Instr.typeAssert, run_underlying' hu, hti, hm]) ?_
        simp only [VRel, LRel]
        exact ⟨[.iface t u, .bool true], rfl, _, _, rfl, ⟨u, rfl, hv⟩, _, _, rfl, rfl, rfl⟩
      · rename_i hm
        rw [← hasAll_missing] at hm
        obtain ⟨z, e1, e2⟩ := hzero h
        cases hm' : Instr.missingMethod want i.methods with
        | none => rw [hm'] at hm; simp at hm
        | some m =>
          exact .of (u := .tuple #[z, .bool false]) (by simp [Instr.typeAssert, run_underlying' hu, hti, hm', e1]) e2
    · exact (run_fail h).elim
  · rename_i d hne hu
    simp only [VRel] at hx; subst hx
    obtain ⟨z, e1, e2⟩ := hzero h
    exact .of (u := .tuple #[z, .bool false]) (by cases d <;> first | exact absurd rfl (hne _) | simp [Instr.typeAssert, run_underlying' hu, e1]) e2
  · rename_i d t v' hne hu
    simp only [VRel] at hx
    obtain ⟨u, rfl, hv⟩ := hx
    split at h
    · rename_i ht
      cases run_ret h
      subst ht
      refine .of (u := .tuple #[u, .bool true]) (by cases d <;> first | exact absurd rfl (hne _) | simp [Instr.typeAssert, run_underlying' hu]) ?_
      simp only [VRel, LRel]
      exact ⟨[u, .bool true], rfl, _, _, rfl, hv, _, _, rfl, rfl, rfl⟩
    · rename_i ht
      obtain ⟨z, e1, e2⟩ := hzero h
      exact .of (u := .tuple #[z, .bool false]) (by cases d <;> first | exact absurd rfl (hne _) | simp [Instr.typeAssert, run_underlying' hu, ht, e1]) e2
  · exact (run_fail h).elim

theorem Gives.weaken {P : Program} {s : Sem Value} {w : World} {R R' : Value → Prop} (h : Gives P s w R) (k : ∀ u, R u → R' u) : Gives P s w R' := by
  obtain ⟨u, w', e, hs, hR⟩ := h
  exact ⟨u, w', e, hs, k u hR⟩

theorem isNili_eq {v : AV} (h : isNili v = true) : v = .nili := by cases v <;> simp [isNili] at h; rfl
theorem zeroFault_eq {v : AV} (h : zeroFault v = true) : v = .agg [.it .i64 0, .it .i64 0, .nili] := by
  unfold zeroFault at h
  split at h
  · rfl
  · cases h
theorem zeroCode_eq {v : AV} (h : zeroCode v = true) : v = .it .i64 0 := by
  unfold zeroCode at h
  split at h
  · rfl
  · cases h

theorem er_rel {r : Res} {tf te : Nat} {x : ErrD} {vx : Value} (h : VRel r (.er tf te x) vx) :
    match x with
    | .nil => VRel r .nili vx
    | .code n => VRel r (.ifc te (.it .i64 n)) vx
    | .fault c l e => VRel r (.ifc tf (.agg [.it .i64 c, .it .i64 l, .er tf te e])) vx := by
  simp only [VRel] at h
  subst h
  cases x <;> simp only [errVal, VRel, LRel]
  · exact ⟨_, rfl, rfl⟩
  · exact ⟨_, rfl, _, rfl, _, _, rfl, rfl, _, _, rfl, rfl, _, _, rfl, rfl, rfl⟩

theorem methodsOf_some {P : Program} {want : Array (String × TypeId)} {t : TypeId} {b : Bool} (h : methodsOf P want t = some b) : ∃ i, P.info? t = some i ∧ hasAll want i.methods = b := by
  unfold methodsOf at h
  cases hi : P.info? t with
  | none => rw [hi] at h; cases h
  | some i => rw [hi] at h; exact ⟨i, rfl, Option.some.inj h⟩

theorem assert_gives {P : Program} {w : World} {r : Res} {xt at_ : TypeId} {x v : AV} {vx : Value} (h : (assertAV P at_ x).run = some v) (hx : VRel r x vx) : Gives P (Instr.typeAssert vx xt at_ true) w (VRel r v) := by
  unfold assertAV at h
  split at h
  · rename_i tf te y
    unfold assertEr at h
    split at h
    · exact (run_fail h).elim
    rename_i hne
    have hr := er_rel hx
    split at h
    · rename_i want z hu hz
      split at h
      · rename_i f c hf hc
        split at h
        · rename_i hn
          have hz0 := isNili_eq hn; subst hz0
          have hv : VRel r (AV.tup [.er tf te (y.only f c), .bo (y.does f c)]) = VRel r v := by
            cases f <;> cases c <;> rw [← run_ret h] <;> funext u <;> cases y <;> simp only [VRel, LRel, errVal, ErrD.only, ErrD.does, ErrD.onlyF, ErrD.onlyC, ErrD.isFault, ErrD.isCode, ErrD.isNil, cond_true, cond_false, Bool.not_true, Bool.not_false]
          rw [← hv]
          obtain ⟨iF, hF1, hF2⟩ := methodsOf_some hf
          obtain ⟨iE, hE1, hE2⟩ := methodsOf_some hc
          cases y with
          | nil =>
            refine (assert_gives0 (v := .tup [.nili, .ff]) (by simp only [assertAV0, hu, hz]; rfl) hr).weaken fun u hu => ?_
            simp only [VRel, LRel, ErrD.only, ErrD.does, cond_false, errVal] at hu ⊢
            exact hu
          | code n =>
            cases c with
            | true =>
              refine (assert_gives0 (v := .tup [.ifc te (.it .i64 n), .tt]) (by simp only [assertAV0, hu, hE1, hE2]; rfl) hr).weaken fun u hu => ?_
              simp only [VRel, LRel, ErrD.only, ErrD.does, cond_true, errVal] at hu ⊢
              obtain ⟨vs, rfl, v1, ws, rfl, ⟨u1, rfl, rfl⟩, h2⟩ := hu
              exact ⟨_, rfl, _, _, rfl, rfl, h2⟩
            | false =>
              refine (assert_gives0 (v := .tup [.nili, .ff]) (by simp only [assertAV0, hu, hE1, hE2, hz]; rfl) hr).weaken fun u hu => ?_
              simp only [VRel, LRel, ErrD.only, ErrD.does, cond_false, errVal] at hu ⊢
              exact hu
          | fault k l e =>
            cases f with
            | true =>
              refine (assert_gives0 (v := .tup [.ifc tf (.agg [.it .i64 k, .it .i64 l, .er tf te e]), .tt]) (by simp only [assertAV0, hu, hF1, hF2]; rfl) hr).weaken fun u hu => ?_
              simp only [VRel, LRel, ErrD.only, ErrD.does, cond_true, errVal] at hu ⊢
              obtain ⟨vs, rfl, v1, ws, rfl, ⟨u1, rfl, vs2, rfl, _, _, rfl, rfl, _, _, rfl, rfl, _, _, rfl, rfl, rfl⟩, h2⟩ := hu
              exact ⟨_, rfl, _, _, rfl, rfl, h2⟩
            | false =>
              refine (assert_gives0 (v := .tup [.nili, .ff]) (by simp only [assertAV0, hu, hF1, hF2, hz]; rfl) hr).weaken fun u hu => ?_
              simp only [VRel, LRel, ErrD.only, ErrD.does, cond_false, errVal] at hu ⊢
              exact hu
        · exact (run_fail h).elim
      · exact (run_fail h).elim
    · rename_i d z hni hu hz
      have hmiss : ∀ t v', t ≠ at_ → assertAV0 P at_ (.ifc t v') = .ret (.tup [z, .ff]) := by
        intro t v' ht
        unfold assertAV0
        cases d <;> first | exact absurd rfl (hni _) | (simp only [hu, hz, if_neg ht]; rfl)
      have hhit : ∀ v', assertAV0 P at_ (.ifc at_ v') = .ret (.tup [v', .tt]) := by
        intro v'
        unfold assertAV0
        cases d <;> first | exact absurd rfl (hni _) | (simp only [hu, if_true])
      have hnil : assertAV0 P at_ .nili = .ret (.tup [z, .ff]) := by
        unfold assertAV0
        cases d <;> first | exact absurd rfl (hni _) | (simp only [hu, hz]; rfl)
      split at h
      · rename_i hat
        subst hat
        split at h
        · rename_i hzf
          cases run_ret h
          have hz0 := zeroFault_eq hzf; subst hz0
          cases y with
          | nil =>
            refine (assert_gives0 (by rw [hnil]; rfl) hr).weaken fun u hu => ?_
            simp only [VRel, LRel, ErrD.faultC, ErrD.faultL, ErrD.faultE, ErrD.isFault, errVal] at hu ⊢
            exact hu
          | code n =>
            refine (assert_gives0 (by rw [hmiss _ _ (fun e => hne e.symm)]; rfl) hr).weaken fun u hu => ?_
            simp only [VRel, LRel, ErrD.faultC, ErrD.faultL, ErrD.faultE, ErrD.isFault, errVal] at hu ⊢
            exact hu
          | fault k l e =>
            refine (assert_gives0 (by rw [hhit]; rfl) hr).weaken fun u hu => ?_
            simp only [VRel, LRel, ErrD.faultC, ErrD.faultL, ErrD.faultE, ErrD.isFault] at hu ⊢
            exact hu
        · exact (run_fail h).elim
      · rename_i hat
        split at h
        · rename_i hat2
          subst hat2
          split at h
          · rename_i hzf
            cases run_ret h
            have hz0 := zeroCode_eq hzf; subst hz0
            cases y with
            | nil =>
              refine (assert_gives0 (by rw [hnil]; rfl) hr).weaken fun u hu => ?_
              simp only [VRel, LRel, ErrD.codeOf, ErrD.isCode] at hu ⊢
              exact hu
            | code n =>
              refine (assert_gives0 (by rw [hhit]; rfl) hr).weaken fun u hu => ?_
              simp only [VRel, LRel, ErrD.codeOf, ErrD.isCode] at hu ⊢
              exact hu
            | fault k l e =>
              refine (assert_gives0 (by rw [hmiss _ _ hne]; rfl) hr).weaken fun u hu => ?_
              simp only [VRel, LRel, ErrD.codeOf, ErrD.isCode] at hu ⊢
              exact hu
          · exact (run_fail h).elim
        · rename_i hat2
          cases run_ret h
          cases y with
          | nil => exact assert_gives0 (by rw [hnil]; rfl) hr
          | code n => exact assert_gives0 (by rw [hmiss _ _ (fun e => hat2 e.symm)]; rfl) hr
          | fault k l e => exact assert_gives0 (by rw [hmiss _ _ (fun e => hat e.symm)]; rfl) hr
    · exact (run_fail h).elim
  · exact assert_gives0 h hx

theorem dec1_cells {r : Res} {t : Ty} {v : AV} {x : t.den} {us : List Value} (h : t.dec1 v = some x) (hl : LRel r v.cells us) : TRel r.H t x us := by
  unfold Ty.dec1 at h
  split at h
  · rename_i cs
    split at h
    · rename_i y hd
      simp at h; subst h
      obtain ⟨us', ws, rfl, h1, h2⟩ := dec_sound t hl hd
      simp only [LRel] at h2; subst h2
      simpa using h1
    · simp at h
  · rename_i hna
    have hc : v.cells = [v] := by cases v <;> first | rfl | exact absurd rfl (hna _)
    split at h
    · rename_i y hd
      simp at h; subst h
      rw [hc] at hl
      obtain ⟨us', ws, rfl, h1, h2⟩ := dec_sound t hl hd
      simp only [LRel] at h2; subst h2
      simpa using h1
    · simp at h

section
variable {P : Program} {own own' : List Blk} {e : Operand → AV} {o : Oper} {v : AV}

theorem quiet_sound {F : Fns} (hF : QuietOK P F.quiet) {t : T (AV × List Blk)} (hq : quietOp P F own e o = some t) (hr : t.run = some (v, own')) : QuietAt P own e o v own' := by
  unfold quietOp at hq
  dsimp only at hq
  split at hq
  · -- move
    rename_i x ho
    cases hq
    obtain ⟨h, rfl⟩ := run_v hr
    have := run_ret h; subst this
    exact QuietAt.read (fun ρ => pure (ρ x)) (fun a => by unfold execOp; rw [ho]; try rfl) fun w0 M S ownF r w a _ hR hx _ => .of (by simp) (hx x)
  · rename_i x ho
    cases hq
    obtain ⟨h, rfl⟩ := run_v hr
    have := run_ret h; subst this
    exact QuietAt.read (fun ρ => pure (ρ x)) (fun a => by unfold execOp; rw [ho]; try rfl) fun w0 M S ownF r w a _ hR hx _ => .of (by simp) (hx x)
  · -- alloc
    rename_i ty ho
    cases hq
    split at hr
    · rename_i z hz
      have := run_ret hr; cases this
      refine QuietAt.make (0, 0) fun w0 M S ownF r w a _ hR hx _ => ?_
      obtain ⟨zv, e1, e2⟩ := zeroAV_rel (w := w) (r := r) hz
      refine ⟨zv.cells, ty, .pointer (some ⟨w.heap.size, 0, none⟩), ?_, ?_, ?_⟩
      · simp [execOp, ho, Instr.alloc, e1, newVar, newRow, newObj, Sem.run]
      · intro r' hr'
        exact ⟨zv.cells.toList, ty, (0, 0), by simp, LRel.mono hr' _ _ e2, thaw_new _⟩
      · intro r' hι
        simp only [VRel]
        exact ⟨_, _, hι, rfl⟩
    · exact (run_fail hr).elim
  · -- box
    rename_i ty x ho
    cases hq
    split at hr
    · rename_i hk
      have := run_ret hr; cases this
      refine QuietAt.make (0, 0) fun w0 M S ownF r w a _ hR hx _ => ?_
      refine ⟨(a.eval x).cells, ty, .pointer (some ⟨w.heap.size, 0, none⟩), ?_, ?_, ?_⟩
      · simp [execOp, ho, Instr.box, newVar, newRow, newObj, Sem.run]
      · intro r' hr'
        exact ⟨(a.eval x).cells.toList, ty, (0, 0), by simp, LRel.mono hr' _ _ (cells_rel (hx x) hk), thaw_new _⟩
      · intro r' hι
        simp only [VRel]
        exact ⟨_, _, hι, rfl⟩
    · exact (run_fail hr).elim
  · -- build
    rename_i ty parts ho
    cases hq
    obtain ⟨h, rfl⟩ := run_v hr
    exact QuietAt.read (fun ρ => Instr.build ty (parts.map fun p => (p.1, ρ p.2))) (fun a => by unfold execOp; rw [ho]; try rfl) fun w0 M S ownF r w a _ hR hx _ => build_gives hx h
  · -- buildSlice
    rename_i ty len parts ho
    cases hq
    split at hr
    · rename_i el hu
      split at hr
      · rename_i a0 z0 ha0 hz0
        split at hr
        · rename_i xs hxs
          split at hr
          · rename_i hlen
            have := run_ret hr; cases this
            obtain ⟨hl1, hl2, hsz⟩ := hlen
            refine QuietAt.make (len, len) fun w0 M S ownF r w a _ hR hx _ => ?_
            obtain ⟨zv, e1, e2, _⟩ := zeroCells_rel (w := w) (r := r) hz0
            have hzl : len * a0.sz ≠ 0 → True := fun _ => trivial
            let base : Array Value := (Array.range (len * a0.sz)).map fun i => (if len * a0.sz = 0 then #[] else zv.cells)[i % (if len * a0.sz = 0 then #[] else zv.cells).size]!
            have hbase : base.toList.length = (0 + parts.toList.length) * a0.sz := by
              simp [base, hl1]
            obtain ⟨uss, k1, k2, k3, k4, k5⟩ := fill_seq hx hxs hbase
            simp only [Array.toArray_toList, Nat.zero_mul, List.take_zero, List.nil_append] at k5
            have hparts : (parts.map fun p => (p.1, a.eval p.2)).toList = parts.toList.map fun p => (p.1, a.eval p.2) := by simp
            refine ⟨uss.flatten.toArray, el, .slice (some ⟨w.heap.size, 0, none⟩) len len, ?_, ?_, ?_⟩
            · have hbig : ¬ 2 ^ 24 < len * a0.sz := by omega
              have e0 : execOp a.eval o = (do let u ← Instr.buildSlice ty len (parts.map fun p => (p.1, a.eval p.2)); pure (.value u)) := by unfold execOp; rw [ho]; try rfl
              rw [e0]
              unfold Instr.buildSlice
              by_cases hz : len * a0.sz = 0
              · simp only [base, if_pos hz] at k5
                simp [run_underlying' hu, run_sizeOf' (szOk_some hsz), hz] at k5 ⊢
                simp [k5, newRow, newObj, Sem.run]
              · simp only [base, if_neg hz] at k5
                simp only [Sem.run_bind, run_underlying' hu, Result.andThen, run_sizeOf' (szOk_some hsz)]
                rw [if_neg hbig, if_neg hz]
                simp only [Sem.run_bind, e1, Result.andThen, Sem.run_pure, hparts, k5]
                rfl
            · intro r' hr'
              exact row_new (by simp at k2 ⊢; omega) (by simp at k2 ⊢; omega) (Nat.le_refl _) k3 k4 r' hr'
            · intro r' hι
              simp only [VRel]
              exact ⟨_, len, rfl, Nat.le_refl _, by simp, .inr ⟨_, _, hι, by simp, by simp⟩⟩
          · exact (run_fail hr).elim
        · exact (run_fail hr).elim
      · exact (run_fail hr).elim
    · exact (run_fail hr).elim
  · -- makeSlice
    rename_i ty ol oc ho
    cases hq
    split at hr
    · rename_i el hu
      split at hr
      · rename_i a0 zv0 k1 n k2 m ha0 hz0 hn hm
        split at hr
        · rename_i z hz
          split at hr
          · rename_i hsz
            rcases run_ite hr with ⟨hb, hr⟩ | ⟨_, hr⟩
            · have := run_ret hr; cases this
              simp only [Bool.and_eq_true, decide_eq_true_eq] at hb
              obtain ⟨⟨⟨b1, b2⟩, b3⟩, b4⟩ := hb
              refine QuietAt.make (m.toNat, m.toNat) fun w0 M S ownF r w a _ hR hx _ => ?_
              obtain ⟨zv, e1, e2⟩ := zeroAV_rel (w := w) (r := r) hz0
              obtain ⟨iel, hi⟩ : ∃ i, P.info? el = some i := by
                have := szOk_some hsz; unfold szT at this
                cases hi : P.info? el with
                | none => simp [hi] at this
                | some i => exact ⟨i, rfl⟩
              have hbytes : bytesT P el = iel.bytes := by simp [bytesT, hi]
              rw [hbytes] at b3
              have hvl : a.eval ol = .int k1 n := by have := hx ol; rw [hn] at this; simpa only [VRel] using this
              have hvc : a.eval oc = .int k2 m := by have := hx oc; rw [hm] at this; simpa only [VRel] using this
              unfold most at b3 b4
              have hwl : IntKind.i64.wrap n = n := by unfold IntKind.wrap; simp [IntKind.bits, IntKind.signed]; omega
              have hwm : IntKind.i64.wrap m = m := by unfold IntKind.wrap; simp [IntKind.bits, IntKind.signed]; omega
              have ht : TRel r.H a0 z zv.cells.toList := dec1_cells hz e2
              have hlz := ht.length
              simp only [Array.length_toList] at hlz
              let Z : Array Value := if m.toNat * a0.sz = 0 then #[] else zv.cells
              have hcells : (Array.range (m.toNat * a0.sz)).map (fun i => Z[i % Z.size]!) = ((List.replicate m.toNat zv.cells.toList).flatten).toArray := by
                by_cases h0 : m.toNat * a0.sz = 0
                · have : (List.replicate m.toNat zv.cells.toList).flatten = [] := by
                    apply List.eq_nil_of_length_eq_zero
                    rw [flat_length (s := a0.sz) (fun us hu => by rw [List.eq_of_mem_replicate hu]; simpa using hlz)]
                    simpa using h0
                  rw [this, h0]; simp
                · have hZ : Z = zv.cells := if_neg h0
                  rw [hZ]
                  have hpos : 0 < a0.sz := by rcases Nat.eq_zero_or_pos a0.sz with h1 | h1; (exact absurd (by rw [h1]; simp) h0); exact h1
                  apply Array.ext
                  · simp [hlz]
                  · intro i h1 h2
                    simp only [Array.getElem_map, Array.getElem_range, List.getElem_toArray]
                    have h1' : i < m.toNat * a0.sz := by simpa using h1
                    have hq : i / a0.sz < m.toNat := (Nat.div_lt_iff_lt_mul hpos).2 h1'
                    have hm' : i % a0.sz < zv.cells.size := by rw [hlz]; exact Nat.mod_lt _ hpos
                    have key := flat_at (s := a0.sz) (uss := List.replicate m.toNat zv.cells.toList) (fun us hu => by rw [List.eq_of_mem_replicate hu]; simpa using hlz) (i := i / a0.sz) (us := zv.cells.toList) (by simp [hq])
                      (j := i % a0.sz) (u := zv.cells[i % a0.sz]) (by simp [hm'])
                    rw [Nat.mul_comm, Nat.div_add_mod] at key
                    rw [List.getElem?_eq_getElem (by simpa using h2)] at key
                    simp only [Option.some.injEq] at key
                    rw [key, hlz]
                    simp [hm']
              refine ⟨((List.replicate m.toNat zv.cells.toList).flatten).toArray, el, .slice (some ⟨w.heap.size, 0, none⟩) n.toNat m.toNat, ?_, ?_, ?_⟩
              · have e0 : execOp a.eval o = (do let u ← Instr.makeSlice ty (a.eval ol) (a.eval oc); pure (.value u)) := by unfold execOp; rw [ho]
                rw [e0, hvl, hvc, ← hcells]
                have t1 : (typeInfo el).run P w = .ok iel w := by simp [typeInfo, program, Sem.run, hi]
                have t2 : ((iel.bytes : Int) * m > 2 ^ 48) = False := by simp; rw [Int.mul_comm]; omega
                have t3 : ¬ m.toNat * iel.bytes > roomBytes := by
                  have : (m.toNat * iel.bytes : Nat) ≤ 2 ^ 46 := by
                    have h1 : ((m.toNat * iel.bytes : Nat) : Int) = m * iel.bytes := by rw [Int.natCast_mul, Int.toNat_of_nonneg (by omega)]
                    omega
                  unfold roomBytes; omega
                unfold Instr.makeSlice
                simp only [Sem.run_bind, run_underlying' hu, Result.andThen, asInt, asIntOf, Sem.run_pure, t1, hwl, hwm]
                rw [if_neg (by simp only [t2]; simp; omega)]
                simp only [Sem.run_bind, askRoom, if_neg t3, Sem.run_pure, Result.andThen, run_sizeOf' (szOk_some hsz)]
                by_cases h0 : m.toNat * a0.sz = 0
                · have hZ : Z = #[] := if_pos h0
                  rw [if_pos h0, hZ]
                  simp [newRow, newObj, Sem.run]
                · have hZ : Z = zv.cells := if_neg h0
                  rw [if_neg h0, hZ]
                  simp [e1, newRow, newObj, Sem.run]
              · intro r' hr'
                refine row_new (C := (m.toNat, m.toNat)) (by simp) (by simp) (Nat.le_refl _) (fun us hu => by rw [List.eq_of_mem_replicate hu]; simpa using hlz) (fun i x hx => ?_) r' hr'
                rw [List.getElem?_replicate] at hx
                split at hx
                · rename_i hlt
                  simp at hx; subst hx
                  exact ⟨zv.cells.toList, by simp [hlt], ht⟩
                · simp at hx
              · intro r' hι
                simp only [VRel]
                exact ⟨_, m.toNat, rfl, by omega, by simp, .inr ⟨_, _, hι, by simp, by simp, by simp; omega⟩⟩
            · exact (run_fail hr).elim
          · exact (run_fail hr).elim
        · exact (run_fail hr).elim
      · exact (run_fail hr).elim
    · exact (run_fail hr).elim
  · -- load
    rename_i ty x ho
    cases hq
    obtain ⟨h, rfl⟩ := run_v hr
    exact QuietAt.read (fun ρ => Instr.loadAt ty (ρ x)) (fun a => by unfold execOp; rw [ho]) fun w0 M S ownF r w a ha hR hx _ => load_gives hR ha h (hx x)
  · -- nilCheck
    rename_i x ho
    cases hq
    obtain ⟨h, rfl⟩ := run_v hr
    refine ⟨⟨[], by simp⟩, fun w0 M S ownF r w a ha _ hR hx hl => ?_⟩
    have key : ∃ u, (execOp a.eval o).run P w = .ok (.value u) w ∧ VRel r v u := by
      have hx := hx x
      split at h
      · rename_i id off he
        have := run_ret h; subst this
        rw [he] at hx
        have hx' := hx
        simp only [VRel] at hx'
        obtain ⟨b, C, _, e1⟩ := hx'
        exact ⟨a.eval x, by simp [execOp, ho, e1], hx⟩
      · rename_i cs he
        have := run_ret h; subst this
        rw [he] at hx
        have hx' := hx
        simp only [VRel] at hx'
        obtain ⟨p, us, e1, _⟩ := hx'
        exact ⟨a.eval x, by simp [execOp, ho, e1], hx⟩
      · rename_i t id ix off he
        have := run_ret h; subst this
        rw [he] at hx
        have hx' := hx
        simp only [VRel] at hx'
        obtain ⟨b, C, _, e1⟩ := hx'
        exact ⟨a.eval x, by simp [execOp, ho, e1], hx⟩
      · exact (run_fail h).elim
    obtain ⟨u, h1, h2⟩ := key
    exact .value h1 ⟨r, .refl r, hR.congr fun i => ⟨.inl, fun h => by rcases h with h | h; exact h; omega⟩, h2⟩
  · -- binOp
    rename_i bop ty x y yt ho
    cases hq
    obtain ⟨h, rfl⟩ := run_v hr
    exact QuietAt.read (fun ρ => do eqGuard bop ty x y (ρ x) (ρ y); binOp bop ty (ρ x) (ρ y)) (fun a => by unfold execOp; rw [ho]) fun w0 M S ownF r w a _ hR hx hl => bin_gives h (hx x) (hx y) (hl y)
  · -- unOp
    rename_i uop ty x ho
    cases hq
    obtain ⟨h, rfl⟩ := run_v hr
    exact QuietAt.read (fun ρ => Op.unary uop (ρ x)) (fun a => by unfold execOp; rw [ho]) fun w0 M S ownF r w a _ hR hx hl => un_gives h (hx x)
  · -- convert
    rename_i src dst x ho
    split at hq
    · rename_i t' id off len c he
      cases hq
      obtain ⟨h, rfl⟩ := run_v hr
      split at h
      · rename_i e1 l hs hd hli
        refine QuietAt.read (fun ρ => convert src dst (ρ x)) (fun a => by unfold execOp; rw [ho]) fun w0 M S ownF r w a ha hR hx hl => ?_
        have hx := hx x
        rw [he] at hx
        split at h
        · rename_i h8
          have := run_ret h; subst this
          have hrow : ∃ xs : List Int, l = ((xs.drop off).take len) ∧ rowAt own' id = .row (.int .u8) xs ∧ t' = .int .u8 := by
            simp only [listOf] at hli
            split at hli
            · rename_i t'' xs hrw
              split at hli
              · rename_i h1
                subst h1
                split at hli
                · rename_i h2
                  simp at hli
                  exact ⟨xs, hli.symm, hrw, h2⟩
                · simp at hli
              · simp at hli
            · simp at hli
          obtain ⟨xs, rfl, hrow, rfl⟩ := hrow
          simp only [VRel] at hx
          obtain ⟨p, c', e2, hlc, _, hp⟩ := hx
          rw [e2]
          rcases hp with ⟨rfl, rfl⟩ | ⟨b, C, hι, rfl, hC⟩
          · have hb := bytes_gives (P := P) (w := w) (xs := []) (p := p) (c := 0) hs hd h8 (fun ad _ j u e => by simp at e) (fun _ => rfl)
            refine .of (u := .string (ofBytes [])) (by simpa using hb) ?_
            simp only [VRel]; simp [ofBytes]
          · obtain ⟨k1, k2⟩ := hR.row ha hrow hι
            have k1' : xs.length = C.2 := k1
            have hlen : ((xs.drop off).take len : List Int).length = len := by rw [List.length_take, List.length_drop, k1']; omega
            have hb := bytes_gives (P := P) (w := w) (xs := (xs.drop off).take len) (p := some ⟨b, off * Ty.sz (.int .u8), none⟩) (c := c') hs hd h8 (fun ad hpa j u hj => ?_) (fun hn => by cases hn)
            · rw [hlen] at hb
              exact .of hb (VRel.sr r _)
            · cases hpa
              rw [List.getElem?_map] at hj
              cases hx : ((xs.drop off).take len)[j]? with
              | none => rw [hx] at hj; simp at hj
              | some x =>
                rw [hx] at hj; simp at hj; subst hj
                rw [List.getElem?_take] at hx
                split at hx
                · rw [List.getElem?_drop] at hx
                  obtain ⟨us, l1, l2, l3⟩ := k2 _ _ hx
                  simp only [TRel] at l2; subst l2
                  have := l3 0 _ rfl
                  rw [add_zero'] at this
                  rw [add_none]
                  simpa [Ty.sz] using this
                · simp at hx
        · exact (run_fail h).elim
      · rename_i e0 e1 _ hs hd
        split at h
        · rename_i hc
          cases run_ret h
          obtain ⟨hsd, h8, hlen, hrow⟩ := hc
          subst hsd
          have hee := hs.symm.trans hd
          cases hee
          have h8 := isU8_some h8
          refine ⟨⟨[], by simp⟩, fun w0 M S ownF r w a ha _ hR hx hl => ?_⟩
          have hx := hx x
          rw [he] at hx
          have hx' := hx
          simp only [VRel] at hx'
          obtain ⟨p, c', e2, hlc, _, hp⟩ := hx'
          rcases hp with ⟨rfl, rfl⟩ | ⟨b, C, hι, rfl, hC⟩
          · omega
          · obtain ⟨t2, xs, hrw⟩ : ∃ t2 xs, rowAt own' id = .row t2 xs := by
              cases hr : rowAt own' id with
              | row t2 xs => exact ⟨t2, xs, rfl⟩
              | cells cs => rw [hr] at hrow; cases hrow
              | dead => rw [hr] at hrow; cases hrow
              | mp l => rw [hr] at hrow; cases hrow
            obtain ⟨el, n, k1, k2⟩ := hR.mark (hR.there hι) (rowAt_live ha hrw rfl) hι
            refine .value (w' := w.freeze ⟨b, n, none⟩ 1) (u := a.eval x) ?_ ⟨r, .refl r, k2.congr fun i => ⟨.inl, fun h => by rcases h with h | h; exact h; omega⟩, hx⟩
            unfold execOp; rw [ho]; dsimp only
            rw [e2]
            simp [convert, run_underlying' hs, run_underlying' h8, markStringish, k1]
        · exact (run_fail h).elim
      · exact (run_fail h).elim
    · rename_i s he
      have hplain : ∀ t : T AV, some (t.bind fun y => T.ret (y, own)) = some (T.bind t fun y => T.ret (y, own)) := fun _ => rfl
      split at hq
      · rename_i el hs hd
        cases hq
        split at hr
        · rename_i h8
          split at hr
          · cases run_ret hr
            exact frz_bytes ho he hs hd h8
          cases run_ret hr
          refine QuietAt.makeD (fun ρ w => (grownCap w s.size 0 el, s.size)) fun w0 M S ownF r w a ha hR hx hl => ?_
          have hx := hx x
          rw [he] at hx
          simp only [VRel] at hx
          have hge := grownCap_ge w s.size 0 el
          refine ⟨.cells (bytesRow s (grownCap w s.size 0 el)) el ((bytesRow s (grownCap w s.size 0 el)).size, (bytesRow s (grownCap w s.size 0 el)).size + 1), w.drew.alloc (.cells (bytesRow s (grownCap w s.size 0 el)) el ((bytesRow s (grownCap w s.size 0 el)).size, (bytesRow s (grownCap w s.size 0 el)).size + 1)), .slice (some ⟨w.heap.size, 0, none⟩) s.size (grownCap w s.size 0 el), ?_, ⟨rfl, rfl, rfl, ⟨rfl, Nat.le_succ _⟩⟩, fun r' hr' => ?_, fun r' hι => ?_⟩
          · unfold execOp; rw [ho]; dsimp only; rw [hx, Sem.run_bind, run_bytes_of_string w src dst el s hs hd (isU8_some h8)]
            simp [Result.andThen]
          · have hsz : (bytesRow s (grownCap w s.size 0 el)).size = grownCap w s.size 0 el := by
              simp only [bytesRow, Array.size_append, Array.size_map, Array.size_replicate]
              have : s.data.size = s.size := rfl
              omega
            refine ⟨(bytesRow s (grownCap w s.size 0 el)).toList, el, ((bytesRow s (grownCap w s.size 0 el)).size, (bytesRow s (grownCap w s.size 0 el)).size + 1), by simp, ?_, hge, ?_, ?_, fun i x hi => ?_⟩
            · show (bytesOf s).length = s.size
              simp [bytesOf]
            · simp [Ty.sz, hsz]
            · exact .inr (by rw [Array.length_toList]; exact Nat.le_refl _)
            · refine ⟨[.int .u8 x], rfl, rfl, fun j u hj => ?_⟩
              have hi' : (bytesOf s)[i]? = some x := hi
              unfold bytesOf at hi'
              rw [List.getElem?_map] at hi'
              cases j with
              | succ j => simp at hj
              | zero =>
                simp at hj; subst hj
                cases hb : s.data.toList[i]? with
                | none => rw [hb] at hi'; simp at hi'
                | some y =>
                  rw [hb] at hi'
                  have hi' : ((y.toNat : Nat) : Int) = x := Option.some.inj hi'
                  have hlt : i < s.data.toList.length := (List.getElem?_eq_some_iff.1 hb).1
                  simp only [Ty.sz, Nat.mul_one, Nat.add_zero, bytesRow, Array.toList_append, Array.toList_map]
                  rw [List.getElem?_append_left (by simpa using hlt), List.getElem?_map, hb]
                  simp [hi']
          · simp only [VRel]
            exact ⟨_, grownCap w s.size 0 el, rfl, hge, (fun c' h => nomatch h), .inr ⟨_, _, hι, by simp, by simp, by simp⟩⟩
        · exact (run_fail hr).elim
      · cases hq
        obtain ⟨h, rfl⟩ := run_v hr
        exact QuietAt.read (fun ρ => convert src dst (ρ x)) (fun a => by unfold execOp; rw [ho]) fun w0 M S ownF r w a ha hR hx hl => conv_gives hR.pers h (by rw [← he]; exact hx x)
    · cases hq
      obtain ⟨h, rfl⟩ := run_v hr
      exact QuietAt.read (fun ρ => convert src dst (ρ x)) (fun a => by unfold execOp; rw [ho]) fun w0 M S ownF r w a ha hR hx hl => conv_gives hR.pers h (hx x)
  · -- makeInterface
    rename_i ty x ho
    cases hq
    obtain ⟨h, rfl⟩ := run_v hr
    refine QuietAt.read (fun ρ => Instr.makeInterface ty (ρ x)) (fun a => by unfold execOp; rw [ho]) fun w0 M S ownF r w a _ hR hx hl => ?_
    split at h
    · exact (run_fail h).elim
    · rename_i d hn hu
      have := run_ret h; subst this
      refine .of (u := .iface ty (a.eval x)) ?_ (by simp only [VRel]; exact ⟨_, rfl, hx x⟩)
      unfold Instr.makeInterface
      simp only [Sem.run_bind, run_underlying' hu, Result.andThen]
      cases d <;> first | rfl | (exact absurd rfl (hn _))
    · exact (run_fail h).elim
  · -- makeFunc
    rename_i f first caps ho
    cases hq
    obtain ⟨h, rfl⟩ := run_v hr
    have := run_ret h; subst this
    refine QuietAt.read (fun ρ => Instr.makeFunc (.func f) (first.map ρ) (caps.map ρ)) (fun a => by unfold execOp; rw [ho]) fun w0 M S ownF r w a _ hR hx hl => ?_
    refine .of (u := .func (.func f) (first.map a.eval) (caps.map a.eval)) rfl ?_
    simp only [VRel]
    exact ⟨first.toList.map a.eval, caps.toList.map a.eval, by congr 1 <;> (apply Array.ext'; simp), lrel hx _, lrel hx _⟩
  · -- slice
    rename_i ty x lo hi mx ho
    split at hq
    · rename_i el ta hz hu hs
      cases hq
      split at hr
      · rename_i hsz
        cases run_ret hr
        exact zcut_quiet ho hz hu hs hsz
      · exact (run_fail hr).elim
    cases hq
    obtain ⟨h, rfl⟩ := run_v hr
    exact QuietAt.read (fun ρ => Instr.sliceAt ty (ρ x) (lo.map ρ) (hi.map ρ) (mx.map ρ)) (fun a => by unfold execOp; rw [ho]) fun w0 M S ownF r w a _ hR hx hl => slice_gives h (hx x) (orel hx lo) (orel hx hi) (orel hx mx)
  · -- fieldAddr
    rename_i s x f ho
    cases hq
    obtain ⟨h, rfl⟩ := run_v hr
    exact QuietAt.read (fun ρ => Instr.fieldAt s (ρ x) f) (fun a => by unfold execOp; rw [ho]) fun w0 M S ownF r w a _ hR hx hl => field_gives h (hx x)
  · -- field
    rename_i ty x f ho
    cases hq
    obtain ⟨h, rfl⟩ := run_v hr
    refine QuietAt.read (fun ρ => Instr.field ty (ρ x) f) (fun a => by unfold execOp; rw [ho]) fun w0 M S ownF r w a _ hR hx hl => ?_
    have hx := hx x
    split at h
    · rename_i fs cs hu he
      rw [he] at hx
      split at h
      · rename_i fd hf
        simp only [VRel] at hx
        obtain ⟨us, e1, k1⟩ := hx
        obtain ⟨u, e2, k2⟩ := run_partAV (P := P) (w := w) k1 h
        exact .of (by simp [Instr.field, run_underlying' hu, hf, e1, asAgg, e2]) k2
      · exact (run_fail h).elim
    · exact (run_fail h).elim
  · -- indexAddr
    rename_i ty x ix ho
    cases hq
    obtain ⟨h, rfl⟩ := run_v hr
    exact QuietAt.read (fun ρ => Instr.indexAt ty (ρ x) (ρ ix)) (fun a => by unfold execOp; rw [ho]) fun w0 M S ownF r w a _ hR hx hl => indexAddr_gives h (hx x) (hx ix) (hl ix)
  · -- index
    rename_i ty x ix ho
    cases hq
    obtain ⟨h, rfl⟩ := run_v hr
    exact QuietAt.read (fun ρ => Instr.index ty (ρ x) (ρ ix)) (fun a => by unfold execOp; rw [ho]) fun w0 M S ownF r w a _ hR hx hl => index_gives h (hx x) (hx ix) (hl ix)
  · -- extract
    rename_i x n ho
    cases hq
    obtain ⟨h, rfl⟩ := run_v hr
    refine QuietAt.read (fun ρ => Instr.extract (ρ x) n) (fun a => by unfold execOp; rw [ho]) fun w0 M S ownF r w a _ hR hx hl => ?_
    have hx := hx x
    split at h
    · rename_i vs he
      rw [he] at hx
      simp only [VRel] at hx
      obtain ⟨us, e1, k1⟩ := hx
      obtain ⟨u, e2, k2⟩ := k1.get (run_optT h)
      exact .of (by simp [Instr.extract, e1, e2]) k2
    · exact (run_fail h).elim
  · -- len
    rename_i xs ts ho
    cases hq
    obtain ⟨h, rfl⟩ := run_v hr
    split at h
    · rename_i x ty hxs hts
      have hxs' : xs = #[x] := by apply Array.ext'; simpa using hxs
      have hts' : ts = #[ty] := by apply Array.ext'; simpa using hts
      subst hxs' hts'
      refine QuietAt.read (fun ρ => Builtin.len_ #[ty] o.type (#[x].map ρ)) (fun a => ?_) fun w0 M S ownF r w a _ hR hx hl => ?_
      · unfold execOp; rw [ho]; rfl
      · have := len_gives (P := P) (w := w) (ty := o.type) h (hx x)
        simpa using this
    · exact (run_fail h).elim
  · -- min
    rename_i xs ts ho
    cases hq
    obtain ⟨h, rfl⟩ := run_v hr
    split at h
    · rename_i x l hxs
      refine QuietAt.read (fun ρ => Builtin.min_ ts o.type (xs.map ρ)) (fun a => ?_) fun w0 M S ownF r w a _ hR hx hl => ?_
      · unfold execOp; rw [ho]; rfl
      · cases hxl : xs.toList with
        | nil => rw [hxl] at hxs; simp at hxs
        | cons y ys =>
          rw [hxl] at hxs
          simp only [List.map_cons, List.cons.injEq] at hxs
          obtain ⟨rfl, rfl⟩ := hxs
          have := run_fold (P := P) (m := Builtin.min2) min2_gives _ _ _ _ _ w (run_optT h) (hx y) (lrel hx ys)
          unfold Builtin.min_
          simpa [hxl] using this
    · exact (run_fail h).elim
  · -- max
    rename_i xs ts ho
    cases hq
    obtain ⟨h, rfl⟩ := run_v hr
    split at h
    · rename_i x l hxs
      refine QuietAt.read (fun ρ => Builtin.max_ ts o.type (xs.map ρ)) (fun a => ?_) fun w0 M S ownF r w a _ hR hx hl => ?_
      · unfold execOp; rw [ho]; rfl
      · cases hxl : xs.toList with
        | nil => rw [hxl] at hxs; simp at hxs
        | cons y ys =>
          rw [hxl] at hxs
          simp only [List.map_cons, List.cons.injEq] at hxs
          obtain ⟨rfl, rfl⟩ := hxs
          have := run_fold (P := P) (m := Builtin.max2) max2_gives _ _ _ _ _ w (run_optT h) (hx y) (lrel hx ys)
          unfold Builtin.max_
          simpa [hxl] using this
    · exact (run_fail h).elim
  · -- a call
    rename_i f xs ts ho
    cases hq
    obtain ⟨h, rfl⟩ := run_v hr
    exact quiet_call hF ho h
  · -- a method's call
    rename_i x name xs ts ho
    cases hq
    obtain ⟨h, rfl⟩ := run_v hr
    exact quiet_invoke hF ho h
  · -- a type assertion
    rename_i x xt at_ ho
    cases hq
    obtain ⟨h, rfl⟩ := run_v hr
    refine QuietAt.read (fun ρ => Instr.typeAssert (ρ x) xt at_ true) (fun a => by unfold execOp; rw [ho]) fun w0 M S ownF r w a _ hR hx hl => ?_
    exact assert_gives h (hx x)
  · -- a new map
    rename_i t ho
    cases hq
    split at hr
    · rename_i ht
      have := run_ret hr; cases this
      obtain ⟨k, e0, hu, hk, hz⟩ := isMapT_some ht
      refine QuietAt.makeD (fun _ _ => (0, 0)) fun w0 M S ownF r w a _ hR hx _ => ?_
      refine ⟨.map #[] 0, _, .map (some w.heap.size), ?_, .refl _, ?_, ?_⟩
      · simp [execOp, ho, Instr.makeMap, newObj, Sem.run]
      · intro r' hr'
        exact ⟨#[], 0, by simp, rfl⟩
      · intro r' hι
        simp only [VRel]
        exact ⟨_, _, hι, rfl⟩
    · exact (run_fail hr).elim
  · -- a map looked into
    rename_i t m k ok ho
    cases hq
    obtain ⟨h, rfl⟩ := run_v hr
    refine QuietAt.read (fun ρ => Instr.lookup t (ρ m) (ρ k) ok) (fun a => by unfold execOp; rw [ho]) fun w0 M S ownF r w a ha hR hx hl => ?_
    split at h
    · rename_i id s ht hm hk
      split at h
      · rename_i l hrow
        have := run_ret h; subst this
        have hm' := hx m
        rw [hm] at hm'
        have hk' := hx k
        rw [hk] at hk'
        simp only [VRel] at hm' hk'
        obtain ⟨b, C, hι, e1⟩ := hm'
        have hid := rowAt_live ha hrow rfl
        rcases hR.blk id _ (hR.there hι) hid rfl with ⟨b', C', e2, ⟨es, c, k1, k2⟩, _⟩ | ⟨e2, _⟩
        · rw [hι] at e2; cases e2
          rw [e1, hk']
          refine .of (lookup_gives ht k1 k2 s ok) ?_
          cases ok
          · simp only [VRel]
          · simp only [VRel, LRel]
            exact ⟨_, rfl, _, _, rfl, rfl, _, _, rfl, rfl, rfl⟩
        · rw [hι] at e2; cases e2
      · exact (run_fail h).elim
    · exact (run_fail h).elim
  · cases hq

end
end Go.Proofs.Pen

namespace Go.Proofs.Pen
open Go RowKit

theorem aside_get (U : List Nat) (own : List Blk) (i : Nat) : (aside U own)[i]? = (own[i]?).map fun k => if U.contains i then .dead else k := by
  unfold aside
  rw [List.getElem?_map, List.getElem?_zipIdx]
  cases own[i]? <;> simp

theorem aside_length (U : List Nat) (own : List Blk) : (aside U own).length = own.length := by simp [aside]

theorem aside_live {U : List Nat} {own : List Blk} {i : Nat} {k : Blk} (h : (aside U own)[i]? = some k) (hl : isLive k = true) : own[i]? = some k ∧ i ∉ U := by
  rw [aside_get] at h
  cases ho : own[i]? with
  | none => rw [ho] at h; cases h
  | some k' =>
    rw [ho] at h
    simp only [Option.map_some, Option.some.injEq] at h
    by_cases hU : U.contains i = true
    · rw [if_pos hU] at h; subst h; cases hl
    · rw [if_neg hU] at h; subst h
      exact ⟨rfl, by simpa using hU⟩

theorem aside_out {U : List Nat} {own : List Blk} {i : Nat} (h : i ∉ U) : (aside U own)[i]? = own[i]? := by
  rw [aside_get]
  cases own[i]? <;> simp [h]

theorem setBlk_same {w : World} {b : Nat} {o : Obj} (h : w.heap[b]? = some o) : setBlk w b o = w := by
  unfold setBlk
  have hb : b < w.heap.size := (Array.getElem?_eq_some_iff.1 h).1
  have : w.heap.setIfInBounds b o = w.heap := by
    apply Array.ext
    · simp
    · intro i h1 h2
      rw [Array.getElem_setIfInBounds]
      split
      · rename_i e; subst e
        have := (Array.getElem?_eq_some_iff.1 h).2
        exact this.symm
      · rfl
  rw [this]
theorem setBlk_setBlk (w : World) (b : Nat) (o p : Obj) : setBlk (setBlk w b o) b p = setBlk w b p := by
  unfold setBlk
  have : (w.heap.setIfInBounds b o).setIfInBounds b p = w.heap.setIfInBounds b p := by
    apply Array.ext'
    simp [Array.toList_setIfInBounds]
  dsimp only
  rw [this]

theorem setCell_setBlk {w : World} {b off : Nat} {vs : List Value} {e : TypeId} {fz : Nat × Nat} {v : Value} (h : w.heap[b]? = some (.cells vs.toArray e fz)) :
    w.setCell ⟨b, off, none⟩ v = setBlk w b (.cells (vs.set off v).toArray e fz) := by
  unfold World.setCell setBlk
  congr 1
  have hb : b < w.heap.size := (Array.getElem?_eq_some_iff.1 h).1
  have hv := (Array.getElem?_eq_some_iff.1 h).2
  apply Array.ext
  · simp
  · intro i h1 h2
    rw [Array.getElem_modify, Array.getElem_setIfInBounds]
    split
    · rename_i e; subst e
      rw [hv]
      simp
    · rfl

theorem cell_one {r : Res} {c : AV} {u : Value} (h : VRel r c u) (hc : c.isCell = true) : u.oneCell' = true := by
  cases c <;> simp only [AV.isCell, reduceCtorEq] at hc <;> simp only [VRel] at h
  case tt => subst h; rfl
  case ff => subst h; rfl
  case bo => subst h; rfl
  case it => subst h; rfl
  case sr => subst h; rfl
  case fl => obtain ⟨x, rfl, _⟩ := h.ofBits; rfl
  case sl => obtain ⟨p, c, rfl, _⟩ := h; rfl
  case slx => obtain ⟨p, rfl, _⟩ := h; rfl
  case osl => obtain ⟨p, c, rfl, _⟩ := h; rfl
  case ref => obtain ⟨p, c, _, rfl⟩ := h; rfl
  case rel => obtain ⟨p, c, _, rfl⟩ := h; rfl
  case ptr => obtain ⟨p, c, rfl, _⟩ := h; rfl
  case nilp => subst h; rfl
  case nilf => subst h; rfl
  case nili => subst h; rfl
  case nilsl => subst h; rfl
  case clo => obtain ⟨p, c, rfl, _⟩ := h; rfl
  case ifc => obtain ⟨p, rfl, _⟩ := h; rfl
  case er => subst h; cases ‹ErrD› <;> rfl
  case nsl => obtain ⟨_, p, n, c, rfl, _⟩ := h; rfl
  case mpr => obtain ⟨b, C, _, rfl⟩ := h; rfl

theorem run_storeCells {P : Program} {b : Nat} {e : TypeId} {fz : Nat × Nat} : ∀ (us : List Value) (i off : Nat) (vs : List Value) (w : World), w.heap[b]? = some (.cells vs.toArray e fz) → off + i + us.length ≤ vs.length → Thaw fz vs.length →
    (∀ u ∈ us, u.oneCell' = true) → (storeCells ⟨b, off, none⟩ us i).run P w = .ok () (setBlk w b (.cells (spliceV vs (off + i) us).toArray e fz))
  | [], i, off, vs, w, h, _, _, _ => by
    simp only [storeCells, spliceV]
    rw [setBlk_same h]; rfl
  | u :: us, i, off, vs, w, h, hl, ht, h1 => by
    simp only [List.length_cons] at hl
    have hc : w.cell? ⟨b, off + i, none⟩ = some (vs[off + i]'(by omega)) := by rw [cell_at h]; simp
    have hf : w.frozen? ⟨b, off + i, none⟩ = false := by
      have : fz.1 = fz.2 ∨ vs.length ≤ fz.1 := ht
      simp only [World.frozen?, h]
      simp only [Bool.and_eq_false_iff, decide_eq_false_iff_not]
      omega
    have hs : (store (Addr.add ⟨b, off, none⟩ i) u).run P w = .ok () (setBlk w b (.cells (vs.set (off + i) u).toArray e fz)) := by
      rw [add_none, run_store P w _ u .plain (h1 u (by simp))]
      simp [hc, hf, setCell_setBlk h]
    have ih := run_storeCells (P := P) us (i + 1) off (vs.set (off + i) u) (setBlk w b (.cells (vs.set (off + i) u).toArray e fz)) (setBlk_at h) (by simp; omega) (by simpa using ht) fun x hx => h1 x (by simp [hx])
    simp only [storeCells, Sem.run_bind, hs, Result.andThen]
    rw [ih, setBlk_setBlk]
    rfl

theorem spliceV_get (us vs : List Value) (off : Nat) (h : off + us.length ≤ vs.length) (k : Nat) : (spliceV vs off us)[k]? = if off ≤ k ∧ k < off + us.length then us[k - off]? else vs[k]? := by
  rw [spliceV_eq _ _ _ h, List.append_assoc]
  have hl : (vs.take off).length = off := by rw [List.length_take]; omega
  by_cases h1 : k < off
  · rw [if_neg (by omega), List.getElem?_append_left (by omega), List.getElem?_take_of_lt h1]
  · rw [List.getElem?_append_right (by omega), hl]
    by_cases h2 : k < off + us.length
    · rw [if_pos ⟨by omega, h2⟩, List.getElem?_append_left (by omega)]
    · rw [if_neg (by omega), List.getElem?_append_right (by omega), List.getElem?_drop]
      congr 1; omega

def Sn (own : List Blk) : Nat → Prop := fun i => i < own.length

section
variable {P : Program} {w0 : Base P} {w : World} {M : Nat → Prop} {own : List Blk} {r : Res}

theorem Rel.write (h : Rel w0 M (Sn own) own r w) {id b : Nat} {C : Nat × Nat} {k k' : Blk} {o : Obj} (hk : own[id]? = some k) (hl : isLive k = true) (hι : r.ι id = some (b, C)) (hb : BRel r (setBlk w b o) b C k') :
    Rel w0 M (Sn (own.set id k')) (own.set id k') r (setBlk w b o) := by
  have hid : id < own.length := (List.getElem?_eq_some_iff.1 hk).1
  have hS : Sn (own.set id k') = Sn own := by funext i; simp [Sn]
  rw [hS]
  obtain ⟨hm, hsep⟩ : (M b ∨ w0.heap.size ≤ b) ∧ ∀ a v, r.H a = some v → a.block ≠ b := by
    rcases h.blk id k hid hk hl with ⟨b', C', e1, _, e2, e3⟩ | ⟨e1, _⟩
    · rw [hι] at e1; cases e1; exact ⟨e2, e3⟩
    · rw [hι] at e1; cases e1
  have hlive : ∀ {j l}, (own.set id k')[j]? = some l → isLive l = true → j ≠ id → own[j]? = some l := fun {j l} e _ hj => by
    rwa [List.getElem?_set_ne (fun e => hj e.symm)] at e
  constructor
  · exact h.os
  · exact h.tape
  · exact ⟨h.output.out, h.output.drawn⟩
  · show w0.heap.size ≤ (w.heap.setIfInBounds b o).size
    simpa using h.size
  · intro c h1 h2
    have : c ≠ b := fun e => by subst e; rcases hm with hm | hm; exact h2 hm; omega
    rw [setBlk_other this]; exact h.base c h1 h2
  · intro a v e
    rw [← h.pers a v e]
    exact World.cell?_of_block (setBlk_other (hsep a v e))
  · intro j l hs hj hlv
    by_cases hji : j = id
    · subst hji
      have : l = k' := by rw [List.getElem?_set_self hid] at hj; exact (Option.some.inj hj).symm
      subst this
      exact .inl ⟨b, C, hι, hb, hm, hsep⟩
    · have hj' := hlive hj hlv hji
      rcases h.blk j l hs hj' hlv with ⟨b', C', e1, e2, e3⟩ | h'
      · have hne : b' ≠ b := fun e => by subst e; exact hji (h.inj j id l k b' C' C hs hid hj' hk hlv hl e1 hι)
        exact .inl ⟨b', C', e1, e2.heap (setBlk_other hne), e3⟩
      · exact .inr h'
  · intro i j l m c D D' hsi hsj hi hj hli hlj e1 e2
    have key : ∀ {n x}, Sn own n → (own.set id k')[n]? = some x → isLive x = true → ∃ y, own[n]? = some y ∧ isLive y = true := fun {n x} _ hn hx => by
      by_cases hni : n = id
      · subst hni; exact ⟨k, hk, hl⟩
      · exact ⟨x, hlive hn hx hni, hx⟩
    obtain ⟨l', hi', hli'⟩ := key hsi hi hli
    obtain ⟨m', hj', hlj'⟩ := key hsj hj hlj
    exact h.inj i j l' m' c D D' hsi hsj hi' hj' hli' hlj' e1 e2
  · exact h.dom
  · exact h.up
  · exact fun i hz => ⟨by have := (h.zero i hz).1; unfold Sn at this ⊢; simpa using this, (h.zero i hz).2⟩
  · exact h.glob

theorem store_sound {t : TypeId} {x v : AV} {vx vv : Value} {own' : List Blk} (hR : Rel w0 M (Sn own) own r w) (h : (storeAV P own t x v).run = some own') (hx : VRel r x vx) (hv : VRel r v vv) :
    ∃ w', (Instr.storeAt t vx vv).run P w = .ok () w' ∧ Rel w0 M (Sn own') own' r w' := by
  have hag : Agree own own := fun _ _ => rfl
  unfold storeAV at h
  split at h
  · rename_i n hn
    split at h
    · rename_i hc
      obtain ⟨c1, c2, c3⟩ := hc
      have hcr := cells_rel hv c2
      have hlen := hcr.length
      have hone : ∀ u ∈ vv.cells.toList, u.oneCell' = true := by
        intro u hu
        obtain ⟨i, hi, he⟩ := List.getElem_of_mem hu
        have hi' : i < v.cells.length := by rw [← hlen]; exact hi
        obtain ⟨u', e1, e2⟩ := hcr.get (List.getElem?_eq_getElem hi')
        rw [List.getElem?_eq_getElem hi] at e1
        have : u' = u := by rw [← he]; exact (Option.some.inj e1).symm
        subst this
        exact cell_one e2 (List.all_eq_true.1 c3 _ (List.getElem_mem hi'))
      have hsz : vv.cells.size = n := by rw [← Array.length_toList, hlen, c1]
      split at h
      · rename_i id off
        split at h
        · rename_i cs hrow
          split at h
          · rename_i hle
            have := run_ret h; subst this
            simp only [VRel] at hx
            obtain ⟨b, C, hι, rfl⟩ := hx
            have hid := rowAt_live hag hrow rfl
            rcases hR.blk id _ (List.getElem?_eq_some_iff.1 hid).1 hid rfl with ⟨b', C', e1, ⟨vs, e, fz, k1, k2, k3⟩, _⟩ | ⟨e1, _⟩
            · rw [hι] at e1; cases e1
              have hst := run_storeCells (P := P) vv.cells.toList 0 off vs w k1 (by rw [hlen]; have := k2.length; omega) k3 hone
              refine ⟨_, by simp [Instr.storeAt, Instr.sureAddr, storeVar, run_sizeOf' hn, hsz]; exact hst, ?_⟩
              refine hR.write (k' := .cells (splice cs off v.cells)) (o := .cells (spliceV vs (off + 0) vv.cells.toList).toArray e fz) hid rfl hι ⟨_, e, fz, setBlk_at k1, splice_rel k2 hcr, ?_⟩
              have : (spliceV vs (off + 0) vv.cells.toList).length = vs.length := by
                rw [spliceV_eq _ _ _ (by rw [hlen]; have := k2.length; omega)]; simp only [List.length_append, List.length_take, List.length_drop]; rw [hlen]; have := k2.length; omega
              rw [this]; exact k3
            · rw [hι] at e1; cases e1
          · exact (run_fail h).elim
        · exact (run_fail h).elim
      · rename_i a id ix off
        split at h
        · rename_i a' xs hrow
          split at h
          · rename_i ht; subst ht
            obtain ⟨x, hx', h⟩ := run_opt h
            split at h
            · rename_i x' hdec
              split at h
              · rename_i hle
                have := run_ret h; subst this
                simp only [VRel] at hx
                obtain ⟨b, C, hι, rfl⟩ := hx
                have hid := rowAt_live hag hrow rfl
                rcases hR.blk id _ (List.getElem?_eq_some_iff.1 hid).1 hid rfl with ⟨b', C', e1, ⟨vs, e, fz, k1, k2, k2', k3, k4, k5⟩, _⟩ | ⟨e1, _⟩
                · rw [hι] at e1; cases e1
                  obtain ⟨us, l1, l2, l3⟩ := k5 ix x hx'
                  have hix : ix < C.2 := by rw [← k2]; exact (List.getElem?_eq_some_iff.1 hx').1
                  have hfit : ix * a'.sz + a'.sz ≤ vs.length := by
                    rw [← Nat.succ_mul]; exact Nat.le_trans (Nat.mul_le_mul_right _ (by omega)) k3
                  have hst := run_storeCells (P := P) vv.cells.toList 0 (ix * a'.sz + off) vs w k1 (by rw [hlen]; omega) k4 hone
                  refine ⟨_, by simp [Instr.storeAt, Instr.sureAddr, storeVar, run_sizeOf' hn, hsz]; exact hst, ?_⟩
                  have hsp := spliceV_eq vv.cells.toList vs (ix * a'.sz + off) (by rw [hlen]; omega)
                  have hspl : (spliceV vs (ix * a'.sz + off + 0) vv.cells.toList).length = vs.length := by
                    rw [Nat.add_zero, hsp]; simp only [List.length_append, List.length_take, List.length_drop]; rw [hlen]; omega
                  refine hR.write (k' := .row a' (xs.set ix x')) (o := .cells (spliceV vs (ix * a'.sz + off + 0) vv.cells.toList).toArray e fz) hid rfl hι ⟨_, e, fz, setBlk_at k1, by simpa using k2, k2', by rw [hspl]; exact k3, by rw [hspl]; exact k4, fun i z hz => ?_⟩
                  have hlen' : vv.cells.toList.length = n := by rw [Array.length_toList]; exact hsz
                  by_cases hiz : i = ix
                  · subst hiz
                    have hz' : z = x' := by
                      rw [List.getElem?_set_self (by rw [k2]; exact hix)] at hz; exact (Option.some.inj hz).symm
                    subst hz'
                    have hspl2 := splice_rel (off := off) (LRel.enc l2) hcr
                    obtain ⟨us', ws, e3, m1, m2⟩ := dec_sound a' hspl2 hdec
                    simp only [LRel] at m2; subst m2
                    simp only [List.append_nil] at e3
                    refine ⟨us', m1.length, m1, fun j u hj => ?_⟩
                    rw [← e3, spliceV_get _ _ _ (by rw [hlen', l1]; omega)] at hj
                    rw [Nat.add_zero, spliceV_get _ _ _ (by rw [hlen']; omega)]
                    rw [hlen'] at hj ⊢
                    split at hj
                    · rw [if_pos (by omega)]
                      rw [show i * a'.sz + j - (i * a'.sz + off) = j - off by omega]; exact hj
                    · rw [if_neg (by omega)]; exact l3 j u hj
                  · rw [List.getElem?_set_ne (fun e => hiz e.symm)] at hz
                    obtain ⟨us', m1, m2, m3⟩ := k5 i z hz
                    refine ⟨us', m1, m2, fun j u hj => ?_⟩
                    have hj' : j < a'.sz := by rw [← m1]; exact (List.getElem?_eq_some_iff.1 hj).1
                    rw [Nat.add_zero, spliceV_get _ _ _ (by rw [hlen']; omega), hlen', if_neg ?_]
                    · exact m3 j u hj
                    · rcases Nat.lt_or_ge i ix with h1 | h1
                      · have : (i + 1) * a'.sz ≤ ix * a'.sz := Nat.mul_le_mul_right _ h1
                        rw [Nat.succ_mul] at this; omega
                      · have : (ix + 1) * a'.sz ≤ i * a'.sz := Nat.mul_le_mul_right _ (by omega)
                        rw [Nat.succ_mul] at this; omega
                · rw [hι] at e1; cases e1
              · exact (run_fail h).elim
            · exact (run_fail h).elim
          · exact (run_fail h).elim
        · exact (run_fail h).elim
      · exact (run_fail h).elim
    · exact (run_fail h).elim
  · exact (run_fail h).elim

theorem Rel.fewer {S : Nat → Prop} (h : Rel w0 M S own r w) {own1 : List Blk} (e : ∀ (i : Nat) (k : Blk), own1[i]? = some k → isLive k = true → own[i]? = some k) : Rel w0 M S own1 r w where
  os := h.os
  tape := h.tape
  output := ⟨h.output.out, h.output.drawn⟩
  size := h.size
  base := h.base
  pers := h.pers
  blk id k hs hk hl := h.blk id k hs (e id k hk hl) hl
  inj i j k l b C C' hi hj hk hl lk ll e1 e2 := h.inj i j k l b C C' hi hj (e i k hk lk) (e j l hl ll) lk ll e1 e2
  dom := h.dom
  up := h.up
  zero := h.zero
  glob := h.glob

theorem Rel.freeze (h : Rel w0 M (Sn own) own r w) (U : List Nat) : ∃ r2 : Res, r.le r2 ∧ Rel w0 M (Sn own) (aside U own) r2 w ∧ ∀ v u, VRel r v u → VRel r2 (AV.frz (aside (hideQ U own.length) own) 6 v) u := by
  classical
  let F : Nat → Prop := fun b => ∃ id k C, id ∈ U ∧ own[id]? = some k ∧ isLive k = true ∧ r.ι id = some (b, C)
  let r2 : Res := { H := fun a => if F a.block then w.cell? a else r.H a, ι := r.ι }
  have hsep : ∀ a v, r.H a = some v → ¬ F a.block := by
    rintro a v e ⟨id, k, C, _, hk, hl, hι⟩
    rcases h.blk id k (List.getElem?_eq_some_iff.1 hk).1 hk hl with ⟨b, C', e1, _, _, e4⟩ | ⟨e1, _⟩
    · rw [hι] at e1; cases e1; exact e4 a v e rfl
    · rw [hι] at e1; cases e1
  have hle : r.le r2 := ⟨fun a v e => by
    show (if F a.block then _ else _) = _
    rw [if_neg (hsep a v e)]; exact e, fun _ _ e => e⟩
  have hU : ∀ {i k}, (aside (hideQ U own.length) own)[i]? = some k → isLive k = true → own[i]? = some k ∧ i ∈ U := fun {i k} hk hl => by
    obtain ⟨e1, e2⟩ := aside_live hk hl
    refine ⟨e1, ?_⟩
    apply Classical.byContradiction
    intro hn
    apply e2
    unfold hideQ
    rw [List.mem_filter]
    exact ⟨List.mem_range.2 (List.getElem?_eq_some_iff.1 e1).1, by simpa using hn⟩
  refine ⟨r2, hle, ?_, fun v u hv => ?_⟩
  · exact {
      os := h.os, tape := h.tape, output := h.output, size := h.size, base := h.base
      pers := fun a v e => by
        have e : (if F a.block then w.cell? a else r.H a) = some v := e
        split at e
        · exact e
        · exact h.pers a v e
      blk := fun id k hs hk hl => by
        obtain ⟨hk', hid⟩ := aside_live hk hl
        rcases h.blk id k hs hk' hl with ⟨b, C, e1, e2, e3, e4⟩ | h'
        · refine .inl ⟨b, C, e1, e2.mono hle, e3, fun a v e => ?_⟩
          have e : (if F a.block then w.cell? a else r.H a) = some v := e
          split at e
          · rename_i hF
            obtain ⟨id', k', C', q1, q2, q3, q4⟩ := hF
            intro hab
            have := h.inj id' id k' k a.block C' C (List.getElem?_eq_some_iff.1 q2).1 hs q2 hk' q3 hl q4 (by rw [hab]; exact e1)
            subst this; exact hid q1
          · exact e4 a v e
        · exact .inr h'
      inj := fun i j k l b C C' hi hj hk hl lk ll e1 e2 => h.inj i j k l b C C' hi hj (aside_live hk lk).1 (aside_live hl ll).1 lk ll e1 e2
      dom := h.dom
      up := fun a v e => by
        have e : (if F a.block then w.cell? a else r.H a) = some v := e
        split at e
        · rename_i hF
          obtain ⟨id', k', C', q1, q2, q3, q4⟩ := hF
          rcases h.blk id' k' (List.getElem?_eq_some_iff.1 q2).1 q2 q3 with ⟨b, C, e1, _, e3, _⟩ | ⟨e1, _⟩
          · rw [q4] at e1; cases e1; exact .inr e3.symm
          · rw [q4] at e1; cases e1
        · exact h.up a v e
      zero := h.zero
      glob := fun a v e => hle.H a v (h.glob a v e) }
  · refine frz_rel (h.fewer fun i k hk hl => (hU hk hl).1) (fun _ _ => rfl) hle.H (fun id k b C hk hl hι o v e => ?_) 6 v u hv
    obtain ⟨hk', hid⟩ := hU hk hl
    show (if F b then _ else _) = _
    rw [if_pos ⟨id, k, C, hid, hk', hl, hι⟩]; exact e

theorem storeFz_sound {t : TypeId} {x v v1 : AV} {vx vv : Value} {own' : List Blk} (hR : Rel w0 M (Sn own) own r w) (h : (storeFz P own t x v).run = some (v1, own')) (hx : VRel r x vx) (hv : VRel r v vv) :
    ∃ w' r', (Instr.storeAt t vx vv).run P w = .ok () w' ∧ r.le r' ∧ Rel w0 M (Sn own') own' r' w' ∧ v1 = .junk := by
  unfold storeFz at h
  split at h
  · rename_i a id ix off
    split at h
    · obtain ⟨own1, h1, h2⟩ := run_bind h
      cases run_ret h2
      obtain ⟨w', e1, e2⟩ := store_sound (P := P) hR h1 hx hv
      exact ⟨w', r, e1, .refl r, e2, rfl⟩
    · obtain ⟨own1, h1, h2⟩ := run_bind h
      cases run_ret h2
      obtain ⟨r2, k1, k2, k3⟩ := hR.freeze v.ids
      have hS : ∀ i, Sn own i ↔ Sn (aside v.ids own) i := fun i => by unfold Sn; rw [aside_length]
      obtain ⟨w', e1, e2⟩ := store_sound (P := P) (k2.congr hS) h1 (hx.mono k1) (k3 _ _ hv)
      exact ⟨w', r2, e1, k1, e2, rfl⟩
  · obtain ⟨own1, h1, h2⟩ := run_bind h
    cases run_ret h2
    obtain ⟨w', e1, e2⟩ := store_sound (P := P) hR h1 hx hv
    exact ⟨w', r, e1, .refl r, e2, rfl⟩

end
end Go.Proofs.Pen

namespace Go.Proofs.Pen
open Go RowKit

theorem TRel.one {H : Addr → Option Value} : ∀ {t : Ty} {x : t.den} {vs : List Value}, TRel H t x vs → ∀ u ∈ vs, u.oneCell' = true
  | .int k, x, vs, h, u, hu => by simp only [TRel] at h; subst h; simp at hu; subst hu; rfl
  | .bool, x, vs, h, u, hu => by simp only [TRel] at h; subst h; simp at hu; subst hu; rfl
  | .str, x, vs, h, u, hu => by simp only [TRel] at h; subst h; simp at hu; subst hu; rfl
  | .flt, x, vs, h, u, hu => by
    simp only [TRel] at h; obtain ⟨v, rfl, h⟩ := h; simp at hu; subst hu
    obtain ⟨y, rfl, _⟩ := h.ofBits; rfl
  | .unit, x, vs, h, u, hu => by simp only [TRel] at h; subst h; simp at hu
  | .pair a b, x, vs, h, u, hu => by
    simp only [TRel] at h
    obtain ⟨us, ws, rfl, h1, h2⟩ := h
    simp at hu
    rcases hu with hu | hu
    · exact TRel.one h1 u hu
    · exact TRel.one h2 u hu
  | .st a, x, vs, h, u, hu => TRel.one (t := a) h u hu
  | .sl a, xs, vs, h, u, hu => by simp only [TRel] at h; obtain ⟨p, c, rfl, _⟩ := h; simp at hu; subst hu; rfl
  | .ptr a, x, vs, h, u, hu => by simp only [TRel] at h; obtain ⟨p, us, rfl, _⟩ := h; simp at hu; subst hu; rfl
  | .clo f c, x, vs, h, u, hu => by simp only [TRel] at h; obtain ⟨us, rfl, _⟩ := h; simp at hu; subst hu; rfl
  | .er tf te, x, vs, h, u, hu => by simp only [TRel] at h; subst h; simp at hu; subst hu; cases x <;> rfl
  | .ifi t k, x, vs, h, u, hu => by simp only [TRel] at h; subst h; simp at hu; subst hu; rfl

theorem flat_inv {α : Type} {s : Nat} : ∀ {uss : List (List α)}, (∀ us ∈ uss, us.length = s) → ∀ {k : Nat} {u : α}, uss.flatten[k]? = some u → ∃ (i j : Nat) (us : List α), uss[i]? = some us ∧ us[j]? = some u ∧ k = i * s + j
  | [], _, k, u, h => by simp at h
  | vs :: uss, hs, k, u, h => by
    have hv := hs vs (by simp)
    rw [List.flatten_cons] at h
    by_cases hk : k < vs.length
    · rw [List.getElem?_append_left hk] at h
      exact ⟨0, k, vs, rfl, h, by simp⟩
    · rw [List.getElem?_append_right (by omega)] at h
      obtain ⟨i, j, us, h1, h2, h3⟩ := flat_inv (fun us hu => hs us (by simp [hu])) h
      exact ⟨i + 1, j, us, by simpa using h1, h2, by rw [Nat.succ_mul]; omega⟩

theorem exists_list {α : Type} {Q : Nat → α → Prop} : ∀ (n : Nat), (∀ i, i < n → ∃ x, Q i x) → ∃ l : List α, l.length = n ∧ ∀ i x, l[i]? = some x → Q i x
  | 0, _ => ⟨[], rfl, fun i x h => by simp at h⟩
  | n + 1, h => by
    obtain ⟨l, h1, h2⟩ := exists_list n fun i hi => h i (by omega)
    obtain ⟨x, hx⟩ := h n (by omega)
    refine ⟨l ++ [x], by simp [h1], fun i y hy => ?_⟩
    by_cases hi : i < l.length
    · rw [List.getElem?_append_left hi] at hy; exact h2 i y hy
    · rw [List.getElem?_append_right (by omega)] at hy
      have : i - l.length = 0 := by
        apply Classical.byContradiction; intro hne
        rw [List.getElem?_eq_none (by simp; omega)] at hy; cases hy
      rw [this] at hy; simp at hy; subst hy
      have : i = n := by omega
      subst this; exact hx

structure Rows (r : Res) (t : Ty) (ys : List t.den) (uss : List (List Value)) : Prop where
  len : uss.length = ys.length
  sz : ∀ us ∈ uss, us.length = t.sz
  rel : ∀ (i : Nat) (x : t.den), ys[i]? = some x → ∃ us, uss[i]? = some us ∧ TRel r.H t x us

theorem Rows.one {r : Res} {t : Ty} {ys : List t.den} {uss : List (List Value)} (h : Rows r t ys uss) : ∀ u ∈ uss.flatten, u.oneCell' = true := by
  intro u hu
  obtain ⟨us, h1, h2⟩ := List.mem_flatten.1 hu
  obtain ⟨i, hi, he⟩ := List.getElem_of_mem h1
  have hy : i < ys.length := by rw [← h.len]; exact hi
  obtain ⟨us', k1, k2⟩ := h.rel i ys[i] (List.getElem?_eq_getElem hy)
  rw [List.getElem?_eq_getElem hi] at k1
  have : us' = us := by rw [← he]; exact (Option.some.inj k1).symm
  subst this
  exact k2.one u h2

theorem Rows.append {r : Res} {t : Ty} {xs ys : List t.den} {uss vss : List (List Value)} (h : Rows r t xs uss) (k : Rows r t ys vss) : Rows r t (xs ++ ys) (uss ++ vss) where
  len := by simp [h.len, k.len]
  sz us hu := by simp at hu; rcases hu with hu | hu; exact h.sz us hu; exact k.sz us hu
  rel i x hx := by
    by_cases hi : i < xs.length
    · rw [List.getElem?_append_left hi] at hx
      obtain ⟨us, h1, h2⟩ := h.rel i x hx
      exact ⟨us, by rw [List.getElem?_append_left (by rw [h.len]; exact hi)]; exact h1, h2⟩
    · rw [List.getElem?_append_right (by omega)] at hx
      obtain ⟨us, h1, h2⟩ := k.rel _ x hx
      exact ⟨us, by rw [List.getElem?_append_right (by rw [h.len]; omega), h.len]; exact h1, h2⟩

theorem Rows.mono {r r' : Res} {t : Ty} {xs : List t.den} {uss : List (List Value)} (hr : r.le r') (h : Rows r t xs uss) : Rows r' t xs uss :=
  ⟨h.len, h.sz, fun i x hx => by obtain ⟨us, h1, h2⟩ := h.rel i x hx; exact ⟨us, h1, TRel.mono hr.H _ _ _ h2⟩⟩

theorem rows_nil (r : Res) (t : Ty) : Rows r t [] [] := ⟨rfl, by simp, by simp⟩

theorem rows_of {r : Res} {w : World} {t : Ty} {ys : List t.den} {a : Addr} (h : ∀ (i : Nat) (x : t.den), ys[i]? = some x → ∃ us, us.length = t.sz ∧ TRel r.H t x us ∧ CellsIn w (a.add (i * t.sz)) us) :
    ∃ uss, Rows r t ys uss ∧ CellsIn w a uss.flatten := by
  obtain ⟨uss, h1, h2⟩ := exists_list (Q := fun i us => ∀ x, ys[i]? = some x → us.length = t.sz ∧ TRel r.H t x us ∧ CellsIn w (a.add (i * t.sz)) us) ys.length (fun i hi => by
    obtain ⟨us, k⟩ := h i ys[i] (List.getElem?_eq_getElem hi)
    refine ⟨us, fun x hx => ?_⟩
    rw [List.getElem?_eq_getElem hi] at hx; cases hx; exact k)
  have h3 : ∀ us ∈ uss, us.length = t.sz := fun us hu => by
    obtain ⟨i, hi, he⟩ := List.getElem_of_mem hu
    have := h2 i us (by rw [List.getElem?_eq_getElem hi, he]) ys[i] (List.getElem?_eq_getElem (by omega))
    exact this.1
  refine ⟨uss, ⟨h1, h3, fun i x hx => ?_⟩, fun k u hk => ?_⟩
  · have hi : i < uss.length := by rw [h1]; exact (List.getElem?_eq_some_iff.1 hx).1
    exact ⟨uss[i], List.getElem?_eq_getElem hi, (h2 i uss[i] (List.getElem?_eq_getElem hi) x hx).2.1⟩
  · obtain ⟨i, j, us, k1, k2, rfl⟩ := flat_inv h3 hk
    have hi : i < ys.length := by rw [← h1]; exact (List.getElem?_eq_some_iff.1 k1).1
    have := (h2 i us k1 ys[i] (List.getElem?_eq_getElem hi)).2.2 j u k2
    rwa [add_add] at this

theorem rows_bytes (r : Res) (l : List Int) : Rows r (.int .u8) l (l.map fun n => [.int .u8 n]) where
  len := List.length_map ..
  sz us hu := by
    obtain ⟨n, _, rfl⟩ := List.mem_map.1 hu
    rfl
  rel i x hx := by
    have e : (l.map fun n => [Value.int .u8 n])[i]? = (l[i]?).map fun n => [Value.int .u8 n] := List.getElem?_map ..
    have hx' : l[i]? = some x := hx
    exact ⟨[.int .u8 x], by rw [e, hx']; rfl, rfl⟩

section
variable {P : Program} {w0 : Base P} {w : World} {M : Nat → Prop} {own : List Blk} {r : Res}

theorem listOf_sound {t : Ty} {x : AV} {vx : Value} {ys : List t.den} (hR : Rel w0 M (Sn own) own r w) (h : listOf own t x = some ys) (hx : VRel r x vx) :
    ∃ uss, Rows r t ys uss ∧ (Builtin.lenOf vx).run P w = .ok ys.length w ∧ (Builtin.firstCells t.sz ys.length vx).run P w = .ok uss.flatten.toArray w := by
  have hag : Agree own own := fun _ _ => rfl
  have sl : ∀ {ys : List t.den} {p : Option Addr} {c : Nat}, ElemsAt r.H (TRel r.H t) t.sz ys p → ∃ uss, Rows r t ys uss ∧ (Builtin.lenOf (.slice p ys.length c)).run P w = .ok ys.length w ∧ (Builtin.firstCells t.sz ys.length (.slice p ys.length c)).run P w = .ok uss.flatten.toArray w := by
    intro ys p c hE
    cases ys with
    | nil =>
      refine ⟨[], rows_nil r t, by simp [Builtin.lenOf], ?_⟩
      cases p with
      | none => simp [Builtin.firstCells]
      | some a => simp [Builtin.firstCells, loadCells, loadCellsFrom]
    | cons y ys =>
      obtain ⟨ad, rfl, hE'⟩ := hE (by simp)
      obtain ⟨uss, h1, h2⟩ := rows_of (w := w) (a := ad) (ys := y :: ys) fun i x hi => by
        obtain ⟨us, k1, k2, k3⟩ := hE' i x hi
        exact ⟨us, k1, k2, hR.cellsIn k3⟩
      refine ⟨uss, h1, by simp [Builtin.lenOf], ?_⟩
      have := run_loadCells (P := P) h2
      rw [flat_length h1.sz, h1.len] at this
      simpa [Builtin.firstCells] using this
  unfold listOf at h
  split at h
  · simp at h; subst h
    simp only [VRel] at hx; subst hx
    exact ⟨[], rows_nil r t, by simp [Builtin.lenOf], by simp [Builtin.firstCells]⟩
  · split at h
    · rename_i t' xs ht
      subst ht
      simp at h; subst h
      simp only [VRel] at hx
      obtain ⟨p, c, rfl, _, hE⟩ := hx
      exact sl hE
    · cases h
  · split at h
    · rename_i t' xs ht
      subst ht
      simp at h; subst h
      simp only [VRel] at hx
      obtain ⟨p, rfl, hE⟩ := hx
      exact sl hE
    · cases h
  · rename_i t' id off len cap
    split at h
    · rename_i t'' xs hrow
      split at h
      · rename_i ht; subst ht
        split at h
        · rename_i ht2; subst ht2
          simp at h; subst h
          simp only [VRel] at hx
          obtain ⟨p, c, rfl, hlc, _, hp⟩ := hx
          rcases hp with ⟨rfl, rfl⟩ | ⟨b, C, hι, rfl, hC1, hC2⟩
          · refine ⟨[], by simpa [castSl] using rows_nil r t', by simp [Builtin.lenOf], ?_⟩
            cases p with
            | none => simp [Builtin.firstCells]
            | some a => simp [Builtin.firstCells, loadCells, loadCellsFrom]
          · obtain ⟨k1, k2⟩ := hR.row hag hrow hι
            have hlen : ((xs.drop off).take len).length = len := by rw [List.length_take, List.length_drop, k1]; omega
            obtain ⟨uss, h1, h2⟩ := rows_of (r := r) (w := w) (t := t') (a := ⟨b, off * t'.sz, none⟩) (ys := (xs.drop off).take len) fun i x hi => by
              rw [List.getElem?_take] at hi
              split at hi
              · rw [List.getElem?_drop] at hi
                obtain ⟨us, l1, l2, l3⟩ := k2 _ _ hi
                exact ⟨us, l1, l2, by rw [add_none, ← Nat.add_mul]; exact l3⟩
              · simp at hi
            refine ⟨uss, h1, by simp [Builtin.lenOf, castSl, hlen], ?_⟩
            have := run_loadCells (P := P) h2
            rw [flat_length h1.sz, h1.len] at this
            simpa [Builtin.firstCells, castSl] using this
        · cases h
      · cases h
    · cases h
  · rename_i s
    split at h
    · cases h
      simp only [VRel] at hx; subst hx
      have e2 : (bytesOf s).length = s.size := by simp only [bytesOf, List.length_map, Array.length_toList]; rfl
      refine ⟨(bytesOf s).map fun n => [.int .u8 n], rows_bytes r (bytesOf s), ?_, ?_⟩
      · show (Builtin.lenOf (.string s)).run P w = .ok (bytesOf s).length w
        rw [e2]; rfl
      · show (Builtin.firstCells 1 (bytesOf s).length (.string s)).run P w = _
        rw [e2]
        have e3 : s.extract 0 s.size = s := by simp
        simp only [Builtin.firstCells, e3, Sem.run_pure]
        congr 1
        apply Array.ext'
        have e1 : ∀ l : List Int, (l.map fun n => [Value.int .u8 n]).flatten = l.map fun n => Value.int .u8 n := by
          intro l
          induction l with
          | nil => rfl
          | cons a l ih => simp [ih]
        rw [e1]
        simp [bytesOf]
    · cases h
  · cases h

end
end Go.Proofs.Pen

namespace Go.Proofs.Pen
open Go RowKit

theorem growBy_le (need : Nat) : ∀ (k c : Nat), c ≤ need → Builtin.growBy need k c ≤ need + (need + 768) / 4
  | 0, c, h => by unfold Builtin.growBy; omega
  | k + 1, c, h => by
    unfold Builtin.growBy
    split
    · omega
    · rename_i hc
      by_cases h2 : c + (c + 768) / 4 ≤ need
      · exact growBy_le need k _ h2
      · have : ∀ k, Builtin.growBy need k (c + (c + 768) / 4) = c + (c + 768) / 4 := fun k => by
          cases k with
          | zero => rfl
          | succ k => unfold Builtin.growBy; rw [if_pos (by omega)]
        rw [this]; omega

theorem nextcap_le {need c : Nat} (h : c < need) : Builtin.nextslicecap need c ≤ 3 * need := by
  unfold Builtin.nextslicecap
  split
  · omega
  · split
    · omega
    · have := growBy_le need 4 c (by omega); omega

section
variable {P : Program} {w0 : Base P} {w : World} {M : Nat → Prop} {own : List Blk} {r : Res}

theorem notInt_some {t : TypeId} (h : notInt P t = true) : ∃ d, P.underlying t = some d ∧ (∀ k, d ≠ .int k) := by
  unfold notInt at h
  split at h
  · cases h
  · rename_i d hd hn; exact ⟨d, hn, fun k e => by subst e; exact hd k rfl⟩
  · cases h

theorem append_inplace {st t2 ty e : TypeId} {sz n len c : Nat} {p : Option Addr} {vx : Value} {news : List Value} {w' : World} (hu : P.underlying st = some (.slice e)) (hs : szT P e = some sz) (hn : notInt P t2 = true)
    (hl : (Builtin.lenOf vx).run P w = .ok n w) (hf : (Builtin.firstCells sz n vx).run P w = .ok news.toArray w) (hc : len + n ≤ c)
    (hst : ∀ a, p = some a → (storeCells (a.add (len * sz)) news).run P w = .ok () w') (hp : p = none → w' = w) :
    (Builtin.append_ #[st, t2] ty #[.slice p len c, vx]).run P w = .ok (.slice p (len + n) c) w' := by
  obtain ⟨d, hd, hd2⟩ := notInt_some hn
  have hz : (match d with | .int _ => true | _ => false) = false := by cases d <;> first | rfl | exact absurd rfl (hd2 _)
  cases p with
  | none =>
    have := hp rfl; subst this
    unfold Builtin.append_
    simp [run_underlying' hu, run_sizeOf' hs, run_underlying' hd, hl, hf, hc]
  | some a =>
    have h1 := hst a rfl
    unfold Builtin.append_
    simp [run_underlying' hu, run_sizeOf' hs, run_underlying' hd, hl, hf, hc, h1]

theorem append_grow {st t2 ty e : TypeId} {sz n len c : Nat} {p : Option Addr} {vx z : Value} {olds news : List Value} (hu : P.underlying st = some (.slice e)) (hs : szT P e = some sz) (hn : notInt P t2 = true)
    (hl : (Builtin.lenOf vx).run P w = .ok n w) (hf : (Builtin.firstCells sz n vx).run P w.drew = .ok news.toArray w.drew) (ho : (Builtin.firstCells sz len (.slice p len c)).run P w.drew = .ok olds.toArray w.drew) (hc : c < len + n)
    (hz : (zeroValue e).run P w.drew = .ok z w.drew) (hb : 1 ≤ bytesT P e) (hm : (len + n) * bytesT P e ≤ most) :
    ∃ cap, len + n ≤ cap ∧ (Builtin.append_ #[st, t2] ty #[.slice p len c, vx]).run P w =
      .ok (.slice (some ⟨w.heap.size, 0, none⟩) (len + n) cap) { w.drew with heap := w.heap.push (.cells (olds ++ news ++ (Builtin.zeroCells z.cells (cap - (len + n))).toList).toArray e) } := by
  obtain ⟨d, hd, hd2⟩ := notInt_some hn
  obtain ⟨i, hi⟩ : ∃ i, P.info? e = some i := by
    unfold szT at hs
    cases hi : P.info? e with
    | none => simp [hi] at hs
    | some i => exact ⟨i, rfl⟩
  have hbi : bytesT P e = i.bytes := by simp [bytesT, hi]
  rw [hbi] at hb hm
  have t1 : ∀ w : World, (typeInfo e).run P w = .ok i w := fun w => by simp [typeInfo, program, Sem.run, hi]
  have hcap := nextcap_le hc
  have h1 : ¬ (2 ^ 48 < Builtin.nextslicecap (len + n) c * i.bytes) := by
    unfold most at hm
    have : Builtin.nextslicecap (len + n) c * i.bytes ≤ 3 * ((len + n) * i.bytes) := by
      rw [← Nat.mul_assoc]; exact Nat.mul_le_mul_right _ hcap
    omega
  have h2 : i.bytes ≠ 0 := by omega
  refine ⟨(Question.appendCap (len + n) c e).cut (w.tape w.drawn (Question.appendCap (len + n) c e)), by simp only [Question.cut]; omega, ?_⟩
  have hroom : ∀ (b : Nat) (w : World), (askRoom b).run P w = .ok () w := fun b w => by unfold askRoom; split <;> rfl
  have hfc : Question.forced (.appendCap (len + n) c e) = false := rfl
  unfold Builtin.append_
  simp [run_underlying' hu, run_sizeOf' hs, run_underlying' hd, hl, ho, hf, hz, newRow, newObj, Sem.run, show ¬ (len + n ≤ c) by omega, t1, h1, h2, hfc, hroom]
  have ea : ∀ (zs : Array Value), olds.toArray ++ (news.toArray ++ zs) = (olds ++ (news ++ zs.toList)).toArray := fun zs => by simp
  rw [ea]; rfl

structure Fewer (own own1 : List Blk) : Prop where
  len : own1.length = own.length
  live : ∀ (i : Nat) (k : Blk), own1[i]? = some k → isLive k = true → own[i]? = some k

theorem Fewer.refl (own : List Blk) : Fewer own own := ⟨rfl, fun _ _ h _ => h⟩
theorem Fewer.kill (own : List Blk) (id : Nat) : Fewer own (own.set id .dead) := ⟨by simp, fun i k h hl => by
  by_cases hi : id = i
  · subst hi
    rw [List.getElem?_set] at h
    rw [if_pos rfl] at h
    split at h
    · cases h; cases hl
    · cases h
  · rwa [List.getElem?_set_ne hi] at h⟩

theorem Fewer.push_get {own own1 : List Blk} {k : Blk} (f : Fewer own own1) {i : Nat} {l : Blk} (h : (own1 ++ [k])[i]? = some l) (hl : isLive l = true) : own[i]? = some l ∨ (i = own.length ∧ l = k) := by
  by_cases hi : i < own1.length
  · rw [List.getElem?_append_left hi] at h; exact .inl (f.live i l h hl)
  · rw [List.getElem?_append_right (by omega)] at h
    have : i - own1.length = 0 := by
      apply Classical.byContradiction; intro hne
      rw [List.getElem?_eq_none (by simp; omega)] at h; cases h
    rw [this] at h; simp at h
    exact .inr ⟨by have := f.len; omega, h.symm⟩

theorem brel_lt {b : Nat} {C : Nat × Nat} {k : Blk} (h : BRel r w b C k) (hl : isLive k = true) : b < w.heap.size := by
  cases k with
  | cells cs => obtain ⟨vs, e, fz, h1, _⟩ := h; exact (Array.getElem?_eq_some_iff.1 h1).1
  | row t xs => obtain ⟨vs, e, fz, h1, _⟩ := h; exact (Array.getElem?_eq_some_iff.1 h1).1
  | dead => cases hl
  | mp l => obtain ⟨es, c, h1, _⟩ := h; exact (Array.getElem?_eq_some_iff.1 h1).1

theorem Rel.pushNone {own1 : List Blk} (h : Rel w0 M (Sn own) own r w) (f : Fewer own own1) (t : Ty) : Rel w0 M (Sn (own1 ++ [.row t []])) (own1 ++ [.row t []]) r w where
  os := h.os
  tape := h.tape
  output := ⟨h.output.out, h.output.drawn⟩
  size := h.size
  base := h.base
  pers := h.pers
  blk id k _ hk hl := by
    rcases f.push_get hk hl with h1 | ⟨rfl, rfl⟩
    · exact h.blk id k (List.getElem?_eq_some_iff.1 h1).1 h1 hl
    · exact .inr ⟨h.dom _ (by unfold Sn; omega), t, rfl⟩
  inj i j k l b C C' _ _ hk hl lk ll e1 e2 := by
    have hi := h.there e1
    have hj := h.there e2
    rcases f.push_get hk lk with h1 | ⟨rfl, _⟩
    · rcases f.push_get hl ll with h2 | ⟨rfl, _⟩
      · exact h.inj i j k l b C C' hi hj h1 h2 lk ll e1 e2
      · exact absurd hj (by unfold Sn; omega)
    · exact absurd hi (by unfold Sn; omega)
  dom i hi := h.dom i (fun h' => hi (by unfold Sn at h' ⊢; have := f.len; simp; omega))
  up := h.up
  zero i hz := ⟨by have := (h.zero i hz).1; have f := f.len; unfold Sn at this ⊢; simp; omega, (h.zero i hz).2⟩
  glob := h.glob

theorem Rel.push {own1 : List Blk} (h : Rel w0 M (Sn own) own r w) (f : Fewer own own1) {w' : World} {b : Nat} {C : Nat × Nat} {k : Blk}
    (e1 : w'.os = w.os) (e2 : w'.tape = w.tape) (e3 : OutLe w w') (e4 : w.heap.size ≤ w'.heap.size) (e5 : ∀ c, c < w.heap.size → c ≠ b → w'.heap[c]? = w.heap[c]?)
    (hb : w.heap.size ≤ b ∨ ∃ id l C0, own[id]? = some l ∧ isLive l = true ∧ r.ι id = some (b, C0) ∧ own1[id]? = some .dead)
    (hk : ∀ r' : Res, r.le r' → BRel r' w' b C k) :
    ∃ r', r.le r' ∧ r'.H = r.H ∧ r'.ι own.length = some (b, C) ∧ Rel w0 M (Sn (own1 ++ [k])) (own1 ++ [k]) r' w' := by
  have hle : r.le { r with ι := fun i => if i = own.length then some (b, C) else r.ι i } := ⟨fun a v e => e, fun i p e => by
    show (if i = own.length then _ else r.ι i) = _
    rw [if_neg (fun hi => by subst hi; rw [h.dom _ (by unfold Sn; omega)] at e; cases e)]; exact e⟩
  have hlt : ∀ {b o}, w.heap[b]? = some o → b < w.heap.size := fun e => (Array.getElem?_eq_some_iff.1 e).1
  have old : ∀ {i : Nat}, i < own.length → (if i = own.length then some (b, C) else r.ι i) = r.ι i := fun hi => if_neg (by omega)
  have hM : M b ∨ w0.heap.size ≤ b := by
    rcases hb with hb | ⟨id, l, C0, k1, k2, k3, _⟩
    · exact .inr (Nat.le_trans h.size hb)
    · rcases h.blk id l (h.there k3) k1 k2 with ⟨b', C', j1, _, j2, _⟩ | ⟨j1, _⟩
      · rw [k3] at j1; cases j1; exact j2
      · rw [k3] at j1; cases j1
  have hH : ∀ a v, r.H a = some v → a.block ≠ b ∧ a.block < w.heap.size := fun a v e => by
    have hc : a.block < w.heap.size := by
      have := h.pers a v e
      unfold World.cell? at this
      apply Classical.byContradiction; intro hn
      rw [Array.getElem?_eq_none (by omega)] at this; cases this
    refine ⟨?_, hc⟩
    rcases hb with hb | ⟨id, l, C0, k1, k2, k3, _⟩
    · omega
    · rcases h.blk id l (h.there k3) k1 k2 with ⟨b', C', j1, _, _, j2⟩ | ⟨j1, _⟩
      · rw [k3] at j1; cases j1; exact j2 a v e
      · rw [k3] at j1; cases j1
  have hne : ∀ {i l b' C'}, own[i]? = some l → isLive l = true → r.ι i = some (b', C') → own1[i]? = some l → b' ≠ b := fun {i l b' C'} k1 k2 k3 k4 e => by
    subst e
    rcases hb with hb | ⟨id, l', C0, j1, j2, j3, j4⟩
    · rcases h.blk i l (h.there k3) k1 k2 with ⟨b'', C'', m1, m2, _⟩ | ⟨m1, _⟩
      · rw [k3] at m1; cases m1
        have := brel_lt m2 k2; omega
      · rw [k3] at m1; cases m1
    · have := h.inj i id l l' _ _ _ (h.there k3) (h.there j3) k1 j1 k2 j2 k3 j3
      subst this
      rw [j4] at k4; cases k4; cases k2
  have get : ∀ {i l}, (own1 ++ [k])[i]? = some l → isLive l = true → (own[i]? = some l ∧ own1[i]? = some l ∧ i < own.length) ∨ (i = own.length ∧ l = k) := fun {i l} hi hl => by
    rcases f.push_get hi hl with h1 | h1
    · have hlt' := (List.getElem?_eq_some_iff.1 h1).1
      refine .inl ⟨h1, ?_, hlt'⟩
      rwa [List.getElem?_append_left (by rw [f.len]; exact hlt')] at hi
    · exact .inr h1
  refine ⟨_, hle, rfl, if_pos rfl, ?_⟩
  constructor
  · exact e1.trans h.os
  · exact e2.trans h.tape
  · exact e3.trans h.output
  · exact Nat.le_trans h.size e4
  · intro c h1 h2
    have hc : c ≠ b := fun e => by subst e; rcases hM with hM | hM; exact h2 hM; omega
    have := h.size
    rw [e5 c (by omega) hc]; exact h.base c h1 h2
  · intro a v e
    rw [← h.pers a v e]
    exact World.cell?_of_block (e5 _ (hH a v e).2 (hH a v e).1)
  · intro i l _ hi hl
    rcases get hi hl with ⟨k1, k2, k3⟩ | ⟨rfl, rfl⟩
    · rcases h.blk i l k3 k1 hl with ⟨b', C', m1, m2, m3⟩ | ⟨m1, m2⟩
      · refine .inl ⟨b', C', (old k3).trans m1, (m2.heap (e5 _ (brel_lt m2 hl) (hne k1 hl m1 k2))).mono hle, m3⟩
      · exact .inr ⟨(old k3).trans m1, m2⟩
    · exact .inl ⟨b, C, if_pos rfl, hk _ hle, hM, fun a v e => (hH a v e).1⟩
  · intro i j l m c D D' _ _ hi hj hl hm q1 q2
    rcases get hi hl with ⟨k1, k2, k3⟩ | ⟨rfl, rfl⟩
    · have q1' := (old k3).symm.trans q1
      rcases get hj hm with ⟨l1, l2, l3⟩ | ⟨rfl, rfl⟩
      · have q2' := (old l3).symm.trans q2
        exact h.inj i j l m c D D' k3 l3 k1 l1 hl hm q1' q2'
      · have q2' := (if_pos rfl).symm.trans q2
        cases q2'
        exact absurd rfl (hne k1 hl q1' k2)
    · have q1' := (if_pos rfl).symm.trans q1
      cases q1'
      rcases get hj hm with ⟨l1, l2, l3⟩ | ⟨rfl, rfl⟩
      · have q2' := (old l3).symm.trans q2
        exact absurd rfl (hne l1 hm q2' l2)
      · rfl
  · intro i hi
    have hlen : i ≠ own.length ∧ ¬ i < own.length := by
      unfold Sn at hi
      simp only [List.length_append, List.length_cons, List.length_nil, f.len] at hi
      omega
    show (if i = own.length then _ else r.ι i) = none
    rw [if_neg hlen.1]
    exact h.dom i hlen.2
  · exact h.up
  · intro i hz
    obtain ⟨z1, z2⟩ := h.zero i hz
    have z1 : i < own.length := z1
    refine ⟨by have f := f.len; unfold Sn; simp; omega, ?_⟩
    show (if i = own.length then _ else r.ι i) = none
    rw [if_neg (by omega)]; exact z2
  · exact h.glob

theorem mul_lt {i j len sz : Nat} (hi : i < len) (hj : j < sz) : i * sz + j < len * sz := by
  have : (i + 1) * sz ≤ len * sz := Nat.mul_le_mul_right _ hi
  rw [Nat.succ_mul] at this; omega

theorem row_over {t : Ty} {b : Nat} {C : Nat × Nat} {xs ys : List t.den} {uss : List (List Value)} {len : Nat} (hB : BRel r w b C (.row t xs)) (hl : len ≤ C.2) (hc : len + ys.length ≤ C.1) (hr : Rows r t ys uss) :
    ∃ vs e fz, w.heap[b]? = some (.cells (List.toArray vs) e fz) ∧ len * t.sz + 0 + uss.flatten.length ≤ vs.length ∧ Thaw fz vs.length ∧
      ∀ r' : Res, r.le r' → BRel r' (setBlk w b (.cells (spliceV vs (len * t.sz + 0) uss.flatten).toArray e fz)) b (C.1, len + ys.length) (.row t (xs.take len ++ ys)) := by
  obtain ⟨vs, e, fz, k1, k2, k3, k4, k5, k6⟩ := hB
  have hfl : uss.flatten.length = ys.length * t.sz := by rw [flat_length hr.sz, hr.len]
  have hle : len * t.sz + 0 + uss.flatten.length ≤ vs.length := by
    have : (len + ys.length) * t.sz ≤ C.1 * t.sz := Nat.mul_le_mul_right _ hc
    rw [Nat.add_mul] at this
    omega
  have htl : (xs.take len).length = len := by rw [List.length_take]; omega
  have hsl : (spliceV vs (len * t.sz + 0) uss.flatten).length = vs.length := by
    rw [spliceV_eq _ _ _ hle]; simp only [List.length_append, List.length_take, List.length_drop]; omega
  refine ⟨vs, e, fz, k1, hle, k5, fun r' hr' => ⟨_, e, fz, setBlk_at k1, by simp only [List.length_append]; omega, hc, by rw [hsl]; exact k4, by rw [hsl]; exact k5, fun i x hi => ?_⟩⟩
  by_cases h1 : i < len
  · rw [List.getElem?_append_left (by omega), List.getElem?_take_of_lt h1] at hi
    obtain ⟨us, l1, l2, l3⟩ := k6 i x hi
    refine ⟨us, l1, TRel.mono hr'.H _ _ _ l2, fun j u hj => ?_⟩
    have hj' : j < t.sz := by rw [← l1]; exact (List.getElem?_eq_some_iff.1 hj).1
    have := mul_lt h1 hj'
    rw [spliceV_get _ _ _ hle, if_neg (by omega)]
    exact l3 j u hj
  · rw [List.getElem?_append_right (by omega), htl] at hi
    obtain ⟨us, l1, l2⟩ := hr.rel _ x hi
    have l0 := hr.sz us (List.mem_of_getElem? l1)
    refine ⟨us, l0, TRel.mono hr'.H _ _ _ l2, fun j u hj => ?_⟩
    have hj' : j < t.sz := by rw [← l0]; exact (List.getElem?_eq_some_iff.1 hj).1
    have hi' : i - len < ys.length := (List.getElem?_eq_some_iff.1 hi).1
    have h2 := mul_lt hi' hj'
    have h3 : i * t.sz = len * t.sz + (i - len) * t.sz := by rw [← Nat.add_mul]; congr 1; omega
    rw [spliceV_get _ _ _ hle, if_pos ⟨by omega, by omega⟩]
    have : i * t.sz + j - (len * t.sz + 0) = (i - len) * t.sz + j := by omega
    rw [this]
    exact flat_at hr.sz l1 hj

theorem row_fresh {t : Ty} {w' : World} {b : Nat} {cap : Nat} {xs : List t.den} {uss : List (List Value)} {zs : List Value} {e : TypeId} (hr : Rows r t xs uss) (hc : xs.length ≤ cap) (hz : zs.length = (cap - xs.length) * t.sz)
    (hw : w'.heap[b]? = some (.cells (uss.flatten ++ zs).toArray e)) (r' : Res) (h : r.le r') : BRel r' w' b (cap, xs.length) (.row t xs) := by
  have hfl : uss.flatten.length = xs.length * t.sz := by rw [flat_length hr.sz, hr.len]
  refine ⟨_, e, (0, 0), hw, rfl, hc, ?_, thaw_new _, fun i x hi => ?_⟩
  · rw [List.length_append, hfl, hz, ← Nat.add_mul]
    exact Nat.mul_le_mul_right _ (by simp only; omega)
  · obtain ⟨us, l1, l2⟩ := hr.rel i x hi
    refine ⟨us, hr.sz us (List.mem_of_getElem? l1), TRel.mono h.H _ _ _ l2, fun j u hj => ?_⟩
    have := flat_at hr.sz l1 hj
    rw [List.getElem?_append_left (List.getElem?_eq_some_iff.1 this).1]
    exact this

theorem grow_world {st t2 ty e : TypeId} {t : Ty} {len c : Nat} {p : Option Addr} {vx : Value} {xs ys : List t.den} {uss vss : List (List Value)} {z : List AV} (_hR : Rel w0 M (Sn own) own r w)
    (hu : P.underlying st = some (.slice e)) (hs : szOk P e t = true) (hb : Nat.ble 1 (bytesT P e) = true) (hz : zeroCells P e = some z) (hzl : z.length = t.sz) (hn : notInt P t2 = true) (hm : (len + ys.length) * bytesT P e ≤ most)
    (hx : Rows r t xs uss) (hxl : xs.length = len) (hy : Rows r t ys vss) (hl : (Builtin.lenOf vx).run P w = .ok ys.length w) (hf : (Builtin.firstCells t.sz ys.length vx).run P w.drew = .ok vss.flatten.toArray w.drew)
    (ho : (Builtin.firstCells t.sz len (.slice p len c)).run P w.drew = .ok uss.flatten.toArray w.drew) (hc : c < len + ys.length) :
    ∃ cap w', len + ys.length ≤ cap ∧ (Builtin.append_ #[st, t2] ty #[.slice p len c, vx]).run P w = .ok (.slice (some ⟨w.heap.size, 0, none⟩) (len + ys.length) cap) w' ∧
      w'.os = w.os ∧ w'.tape = w.tape ∧ OutLe w w' ∧ w.heap.size ≤ w'.heap.size ∧ (∀ b, b < w.heap.size → w'.heap[b]? = w.heap[b]?) ∧
      ∀ r' : Res, r.le r' → BRel r' w' w.heap.size (cap, len + ys.length) (.row t (xs ++ ys)) := by
  obtain ⟨zv, e1, e2, _⟩ := zeroCells_rel (w := w.drew) (r := r) hz
  obtain ⟨cap, k1, k2⟩ := append_grow (ty := ty) hu (szOk_some hs) hn hl hf ho hc e1 (Nat.le_of_ble_eq_true hb) hm
  refine ⟨cap, _, k1, k2, rfl, rfl, ⟨rfl, Nat.le_succ _⟩, by simp, fun b hb => ?_, fun r' hr' => ?_⟩
  · show (w.heap.push _)[b]? = _
    rw [Array.getElem?_push, if_neg (by omega)]
  · have hxy := hx.append hy
    have hlen : (xs ++ ys).length = len + ys.length := by simp [hxl]
    rw [← hlen]
    refine row_fresh (e := e) (zs := (Builtin.zeroCells zv.cells (cap - (len + ys.length))).toList) hxy (by omega) ?_ ?_ r' hr'
    · rw [hlen]
      have : zv.cells.size = t.sz := by rw [← Array.length_toList, e2.length, hzl]
      simp [Builtin.zeroCells, this]
    · show (w.heap.push _)[w.heap.size]? = _
      rw [Array.getElem?_push, if_pos rfl, List.flatten_append, hlen]

theorem run_ite_fail {α : Type} {b : Bool} {x : T α} {y : α} (h : (T.ite b x .fail).run = some y) : b = true ∧ x.run = some y := by
  rcases run_ite h with h | ⟨_, h⟩
  · exact h
  · exact (run_fail h).elim

theorem append_core {st t2 ty : TypeId} {s x v : AV} {vs vx : Value} {own' : List Blk} (hR : Rel w0 M (Sn own) own r w) (hn : notInt P t2 = true) (h : (appendAV P own st s x).run = some (v, own')) (hs : VRel r s vs) (hx : VRel r x vx) :
    ∃ u w' r', (Builtin.append_ #[st, t2] ty #[vs, vx]).run P w = .ok u w' ∧ r.le r' ∧ Rel w0 M (Sn own') own' r' w' ∧ VRel r' v u := by
  have hRd : Rel w0 M (Sn own) own r w.drew := hR.same ⟨rfl, rfl, rfl, ⟨rfl, Nat.le_succ _⟩⟩
  unfold appendAV at h
  split at h
  · rename_i e hu
    split at h
    · rename_i t z _ hz
      split at h
      · rename_i hok
        simp only [Bool.and_eq_true, beq_iff_eq] at hok
        obtain ⟨⟨hsz, hb⟩, hzl⟩ := hok
        split at h
        · exact (run_fail h).elim
        · rename_i ys hys
          obtain ⟨vss, y1, y2, y3⟩ := listOf_sound (P := P) hR hys hx
          obtain ⟨vss', y1', _, y3'⟩ := listOf_sound (P := P) hRd hys hx
          split at h
          · -- nil
            simp only [VRel] at hs; subst hs
            obtain ⟨hm, h⟩ := run_ite_fail h
            replace hm := of_decide_eq_true hm
            have := run_ret h; cases this
            by_cases h0 : ys.length = 0
            · have hy0 : ys = [] := List.length_eq_zero_iff.1 h0
              subst hy0
              refine ⟨_, w, r, append_inplace (w' := w) (ty := ty) hu (szOk_some hsz) hn y2 y3 (by simp) (by simp) (fun _ => rfl), .refl r, hR.pushNone (.refl own) t, ?_⟩
              simp only [VRel]
              exact ⟨none, 0, by simp, by simp, by simp, .inl (by simp)⟩
            · obtain ⟨cap, w', g1, g2, g3, g4, g5, g6, g7, g8⟩ := grow_world (t2 := t2) (ty := ty) (len := 0) (c := 0) (p := none) hR hu hsz hb hz hzl hn (by simpa using hm) (rows_nil r t) rfl y1' y2 y3' (by simp [Builtin.firstCells]) (by omega)
              obtain ⟨r', q1, _, q3, q4⟩ := hR.push (.refl own) g3 g4 g5 g6 (fun c hc _ => g7 c hc) (.inl (Nat.le_refl _)) g8
              refine ⟨_, w', r', g2, q1, by simpa using q4, ?_⟩
              simp only [VRel]
              exact ⟨some ⟨w.heap.size, 0, none⟩, cap, by simp, by omega, by simp, .inr ⟨_, _, q3, by simp, by simp; try omega, by simp⟩⟩
          · -- known row
            rename_i t' xs
            split at h
            · rename_i ht; subst ht
              obtain ⟨hm, h⟩ := run_ite_fail h
              replace hm := of_decide_eq_true hm
              have := run_ret h; cases this
              have hlx : listOf own t' (.slx t' xs) = some xs := by simp [listOf, castSl]
              obtain ⟨uss, x1, x2, x3⟩ := listOf_sound (P := P) hRd hlx hs
              simp only [VRel] at hs
              obtain ⟨p, rfl, hE⟩ := hs
              by_cases h0 : ys.length = 0
              · have hy0 : ys = [] := List.length_eq_zero_iff.1 h0
                subst hy0
                refine ⟨_, w, r, append_inplace (w' := w) (ty := ty) hu (szOk_some hsz) hn y2 y3 (by simp) ?_ (fun _ => rfl), .refl r, hR, ?_⟩
                · intro a _
                  have : vss = [] := List.length_eq_zero_iff.1 (by rw [y1.len]; rfl)
                  subst this; rfl
                · simp only [VRel]
                  have hcx : castSl (rfl : t' = t') xs ++ [] = xs := by simp [castSl]
                  rw [hcx]
                  exact ⟨p, xs.length, rfl, Nat.le_refl _, hE⟩
              · obtain ⟨cap, w', g1, g2, g3, g4, g5, g6, g7, g8⟩ := grow_world (t2 := t2) (ty := ty) (len := xs.length) (c := xs.length) (p := p) hR hu hsz hb hz hzl hn hm x1 rfl y1' y2 y3' x3 (by omega)
                have hbel : Below w.heap.size w w' := ⟨g3, g4, g5, g6, g7⟩
                have hlt : ∀ a v, r.H a = some v → a.block < w.heap.size := fun a v e => by
                  have := hR.pers a v e
                  unfold World.cell? at this
                  apply Classical.byContradiction; intro hn
                  rw [Array.getElem?_eq_none (by omega)] at this; cases this
                let H' : Addr → Option Value := fun a => if a.block = w.heap.size then w'.cell? a else r.H a
                have h1 : ∀ a v, r.H a = some v → H' a = some v := fun a v e => by
                  have := hlt a v e
                  show (if a.block = w.heap.size then _ else _) = _
                  rw [if_neg (by omega)]; exact e
                have hRn := hR.below (H' := H') hbel h1 (fun a v e => by
                  by_cases ha : a.block = w.heap.size
                  · have e : (if a.block = w.heap.size then w'.cell? a else r.H a) = some v := e
                    rwa [if_pos ha] at e
                  · have e : (if a.block = w.heap.size then w'.cell? a else r.H a) = some v := e
                    rw [if_neg ha] at e
                    rw [← hR.pers a v e]
                    exact World.cell?_of_block (g7 _ (hlt a v e))) (fun a v e => by
                  by_cases ha : a.block = w.heap.size
                  · exact .inr (by omega)
                  · have e : (if a.block = w.heap.size then w'.cell? a else r.H a) = some v := e
                    rw [if_neg ha] at e; exact .inl e)
                have hle : r.le { H := H', ι := r.ι } := ⟨h1, fun _ _ e => e⟩
                refine ⟨_, w', _, g2, hle, hRn, ?_⟩
                obtain ⟨vs, e', fz, j1, _, _, _, _, j5⟩ := g8 _ hle
                simp only [VRel]
                have hcx : castSl (rfl : t' = t') xs = xs := rfl
                rw [hcx]
                refine ⟨some ⟨w.heap.size, 0, none⟩, cap, by simp, by simp; omega, fun _ => ⟨_, rfl, fun i x hi => ?_⟩⟩
                obtain ⟨us, m1, m2, m3⟩ := j5 i x hi
                refine ⟨us, m1, m2, fun j u hj => ?_⟩
                rw [add_none, add_none]
                show (if w.heap.size = w.heap.size then w'.cell? _ else _) = _
                rw [if_pos rfl, cell_at j1, Nat.zero_add]
                exact m3 j u hj
            · exact (run_fail h).elim
          · -- own row
            rename_i t' id len cp
            split at h
            · rename_i ht; subst ht
              split at h
              · rename_i t'' xs hrow
                split at h
                · rename_i ht; subst ht
                  obtain ⟨hm, h⟩ := run_ite_fail h
                  replace hm := of_decide_eq_true hm
                  have := run_ret h; cases this
                  have hlo : listOf own t'' (.osl t'' id 0 len cp) = some ((xs.drop 0).take len) := by simp [listOf, hrow, castSl]
                  obtain ⟨uss, x1, x2, x3⟩ := listOf_sound (P := P) hRd hlo hs
                  have hown := rowAt_live (fun _ _ => rfl : Agree own own) hrow rfl
                  have hidl : id < own.length := (List.getElem?_eq_some_iff.1 hown).1
                  simp only [VRel] at hs
                  obtain ⟨p, c, rfl, hlc, _, hp⟩ := hs
                  rcases hp with ⟨rfl, rfl⟩ | ⟨b, C, hι, rfl, hC1, hC2⟩
                  · have hnil : (castSl rfl xs).take 0 ++ ys = ys := by simp
                    rw [hnil]
                    by_cases h0 : ys.length = 0
                    · have hy0 : ys = [] := List.length_eq_zero_iff.1 h0
                      subst hy0
                      refine ⟨_, w, r, append_inplace (w' := w) (ty := ty) hu (szOk_some hsz) hn y2 y3 (by simp) ?_ (fun _ => rfl), .refl r, hR.pushNone (.kill own id) _, ?_⟩
                      · intro a _
                        have : vss = [] := List.length_eq_zero_iff.1 (by rw [y1.len]; rfl)
                        subst this; rfl
                      · simp only [VRel]
                        exact ⟨p, 0, by simp, by simp, by simp, .inl (by simp)⟩
                    · obtain ⟨cap, w', g1, g2, g3, g4, g5, g6, g7, g8⟩ := grow_world (t2 := t2) (ty := ty) (len := 0) (c := 0) (p := p) hR hu hsz hb hz hzl hn hm (rows_nil r _) rfl y1' y2 y3'
                        (by cases p <;> simp [Builtin.firstCells, loadCells, loadCellsFrom]) (by omega)
                      obtain ⟨r', q1, _, q3, q4⟩ := hR.push (.kill own id) g3 g4 g5 g6 (fun c hc _ => g7 c hc) (.inl (Nat.le_refl _)) g8
                      refine ⟨_, w', r', g2, q1, by simpa using q4, ?_⟩
                      simp only [VRel]
                      exact ⟨some ⟨w.heap.size, 0, none⟩, cap, by simp, by omega, by simp, .inr ⟨_, _, q3, by simp, by simp; try omega, by simp⟩⟩
                  · rcases hR.blk id _ hidl hown rfl with ⟨b', C', j1, j2, _⟩ | ⟨j1, _⟩
                    · rw [hι] at j1; cases j1
                      by_cases hin : len + ys.length ≤ c
                      · obtain ⟨vs, e', fz, m1, m2, m3, m4⟩ := row_over (len := len) j2 (by omega) (by omega) y1
                        have hst := run_storeCells (P := P) vss.flatten 0 (len * t''.sz) vs w m1 m2 m3 (fun u hu => y1.one u hu)
                        obtain ⟨r', q1, _, q3, q4⟩ := hR.push (w' := setBlk w b (.cells (spliceV vs (len * t''.sz + 0) vss.flatten).toArray e' fz)) (.kill own id) rfl rfl ⟨rfl, Nat.le_refl _⟩ (by simp [setBlk]) (fun c _ hc => setBlk_other hc)
                          (.inr ⟨id, _, C, hown, rfl, hι, by simp [hidl]⟩) m4
                        refine ⟨_, _, r', append_inplace (ty := ty) hu (szOk_some hsz) hn y2 y3 hin ?_ (by simp), q1, q4, ?_⟩
                        · intro a ha; cases ha
                          rw [add_none, Nat.zero_mul, Nat.zero_add]
                          exact hst
                        · simp only [VRel]
                          exact ⟨_, c, rfl, hin, by simp, .inr ⟨_, _, q3, rfl, hC1, by simp⟩⟩
                      · have hxl : ((xs.drop 0).take len).length = len := by rw [List.drop_zero, List.length_take, (hR.row (fun _ _ => rfl) hrow hι).1]; omega
                        rw [hxl] at x3
                        obtain ⟨cap, w', g1, g2, g3, g4, g5, g6, g7, g8⟩ := grow_world (t2 := t2) (ty := ty) (len := len) (c := c) hR hu hsz hb hz hzl hn hm x1 hxl y1' y2 y3' x3 (by omega)
                        obtain ⟨r', q1, _, q3, q4⟩ := hR.push (.kill own id) g3 g4 g5 g6 (fun c hc _ => g7 c hc) (.inl (Nat.le_refl _)) g8
                        refine ⟨_, w', r', g2, q1, q4, ?_⟩
                        simp only [VRel]
                        exact ⟨some ⟨w.heap.size, 0, none⟩, cap, by simp, by omega, by simp, .inr ⟨_, _, q3, by simp, by simp; try omega, by simp⟩⟩
                    · rw [hι] at j1; cases j1
                · exact (run_fail h).elim
              · exact (run_fail h).elim
            · exact (run_fail h).elim
          · exact (run_fail h).elim
      · exact (run_fail h).elim
    · exact (run_fail h).elim
  · exact (run_fail h).elim

end
end Go.Proofs.Pen

namespace Go.Proofs.Pen
open Go RowKit

theorem flat_len {α : Type} {s : Nat} : ∀ {uss : List (List α)}, (∀ us ∈ uss, us.length = s) → uss.flatten.length = uss.length * s
  | [], _ => by simp
  | vs :: uss, hs => by
    rw [List.flatten_cons, List.length_append, hs vs (by simp), flat_len (fun us hu => hs us (by simp [hu])), List.length_cons, Nat.succ_mul]; omega

theorem overL_get {α : Type} {xs zs : List α} {off : Nat} (h : off + zs.length ≤ xs.length) (i : Nat) : (overL xs off zs)[i]? = if off ≤ i ∧ i < off + zs.length then zs[i - off]? else xs[i]? := by
  unfold overL
  have hl : (xs.take off).length = off := by rw [List.length_take]; omega
  rw [List.append_assoc]
  by_cases h1 : i < off
  · rw [if_neg (by omega), List.getElem?_append_left (by omega), List.getElem?_take_of_lt h1]
  · rw [List.getElem?_append_right (by omega), hl]
    by_cases h2 : i < off + zs.length
    · rw [if_pos ⟨by omega, h2⟩, List.getElem?_append_left (by omega)]
    · rw [if_neg (by omega), List.getElem?_append_right (by omega), List.getElem?_drop]
      congr 1; omega
theorem overL_len {α : Type} {xs zs : List α} {off : Nat} (h : off + zs.length ≤ xs.length) : (overL xs off zs).length = xs.length := by
  unfold overL; simp only [List.length_append, List.length_take, List.length_drop]; omega

section
variable {P : Program} {w0 : Base P} {w : World} {M : Nat → Prop} {own : List Blk} {r : Res}

theorem copy_core {dt st ty : TypeId} {d s v : AV} {vd vs : Value} {own' : List Blk} (hR : Rel w0 M (Sn own) own r w) (h : (copyAV P own dt d s).run = some (v, own')) (hd : VRel r d vd) (hs : VRel r s vs) :
    ∃ u w', (Builtin.copy_ #[dt, st] ty #[vd, vs]).run P w = .ok u w' ∧ Rel w0 M (Sn own') own' r w' ∧ VRel r v u := by
  have hag : Agree own own := fun _ _ => rfl
  unfold copyAV at h
  split at h
  · rename_i e t id off len cap t' ys hu
    split at h
    · rename_i ht; subst ht
      split at h
      · rename_i hsz
        split at h
        · rename_i t'' xs hrow
          split at h
          · rename_i ht2; subst ht2
            cases run_ret h
            simp only [VRel] at hs
            obtain ⟨ps, cs, rfl, hcs, hE⟩ := hs
            have hn : Nat.min ys.length len = (ys.take len).length := by rw [List.length_take]; exact Nat.min_comm _ _
            have hys : listOf own t'' (.sl t'' (ys.take len)) = some (ys.take len) := by simp [listOf, castSl]
            have hE' : VRel r (.sl t'' (ys.take len)) (.slice ps (ys.take len).length cs) := by
              simp only [VRel]
              refine ⟨ps, cs, rfl, by rw [List.length_take]; omega, fun hne => ?_⟩
              obtain ⟨ad, e1, e2⟩ := hE (fun h0 => hne (by rw [h0]; simp))
              refine ⟨ad, e1, fun i x hi => e2 i x ?_⟩
              rw [List.getElem?_take] at hi
              split at hi
              · exact hi
              · cases hi
            obtain ⟨uss, q1, _, q3⟩ := listOf_sound hR hys hE'
            have hfirst : (Builtin.firstCells t''.sz (Nat.min ys.length len) (.slice ps ys.length cs)).run P w = .ok uss.flatten.toArray w := by
              rw [hn]
              have e : Builtin.firstCells t''.sz (ys.take len).length (.slice ps ys.length cs) = Builtin.firstCells t''.sz (ys.take len).length (.slice ps (ys.take len).length cs) := by cases ps <;> rfl
              rw [e]; exact q3
            have hflen : uss.flatten.length = (ys.take len).length * t''.sz := by rw [flat_len q1.sz, q1.len]
            simp only [VRel] at hd
            obtain ⟨p, c, rfl, hlc, _, hp⟩ := hd
            have hcs' : castSl rfl ys = ys := rfl
            have hcx : castSl rfl xs = xs := rfl
            have start : ∀ {w'}, (∀ a, p = some a → (storeCells a uss.flatten 0).run P w = .ok () w') → (p = none → w' = w) → (Builtin.copy_ #[dt, st] ty #[.slice p len c, .slice ps ys.length cs]).run P w = .ok (.int .i64 (Nat.min ys.length len : Nat)) w' := by
              intro w' k1 k2
              cases p with
              | none =>
                have := k2 rfl; subst this
                simp [Builtin.copy_, run_underlying' hu, Builtin.lenOf, run_sizeOf' (szOk_some hsz), hfirst, goInt]
              | some a =>
                have := k1 a rfl
                simp [Builtin.copy_, run_underlying' hu, Builtin.lenOf, run_sizeOf' (szOk_some hsz), hfirst, goInt, this]
            rcases hp with ⟨rfl, rfl⟩ | ⟨b, C, hι, rfl, hC1, hC2⟩
            · have hz : ys.take 0 = [] := rfl
              have huss : uss = [] := List.length_eq_zero_iff.1 (by rw [q1.len]; rfl)
              subst huss
              refine ⟨_, w, start (fun a _ => by simp [storeCells]) (fun _ => rfl), ?_, ?_⟩
              · have e1 : overL xs off (ys.take 0) = xs := by unfold overL; simp
                have e2 : own.set id (.row t'' xs) = own := by
                  have hid := rowAt_live hag hrow rfl
                  obtain ⟨hi, he⟩ := List.getElem?_eq_some_iff.1 hid
                  rw [← he]; exact List.set_getElem_self hi
                show Rel w0 M (Sn (own.set id (.row t'' (overL xs off (ys.take 0))))) (own.set id (.row t'' (overL xs off (ys.take 0)))) r w
                rw [e1, e2]; exact hR
              · simp only [VRel]
            · have hid := rowAt_live hag hrow rfl
              rcases hR.blk id _ (List.getElem?_eq_some_iff.1 hid).1 hid rfl with ⟨b', C', e1, ⟨cells, et, fz, k1, k2, k2', k3, k4, k5⟩, _⟩ | ⟨e1, _⟩
              · rw [hι] at e1; cases e1
                have hzl : (ys.take len).length ≤ len := by rw [List.length_take]; omega
                have hfit : off + (ys.take len).length ≤ xs.length := by rw [k2]; omega
                have hroom : off * t''.sz + uss.flatten.length ≤ cells.length := by
                  rw [hflen, ← Nat.add_mul]
                  refine Nat.le_trans (Nat.mul_le_mul_right _ ?_) k3
                  omega
                have hst := run_storeCells (P := P) uss.flatten 0 (off * t''.sz) cells w k1 (by omega) k4 (Rows.one q1)
                have hsp := spliceV_get uss.flatten cells (off * t''.sz) hroom
                have hspl : (spliceV cells (off * t''.sz + 0) uss.flatten).length = cells.length := by
                  rw [Nat.add_zero, spliceV_eq _ _ _ hroom]; simp only [List.length_append, List.length_take, List.length_drop]; omega
                refine ⟨_, _, start (fun a ha => by cases ha; exact hst) (fun h => by cases h), ?_, by simp only [VRel]⟩
                refine hR.write (k' := .row t'' (overL xs off (ys.take len))) (o := .cells (spliceV cells (off * t''.sz + 0) uss.flatten).toArray et fz) hid rfl hι ⟨_, et, fz, setBlk_at k1, by rw [overL_len hfit]; exact k2, k2', by rw [hspl]; exact k3, by rw [hspl]; exact k4, fun i x hi => ?_⟩
                rw [overL_get hfit] at hi
                split at hi
                · rename_i hin
                  obtain ⟨us, f1, f2⟩ := q1.rel _ _ hi
                  have hus := q1.sz us (List.mem_of_getElem? f1)
                  refine ⟨us, hus, f2, fun j u hj => ?_⟩
                  have hjl : j < t''.sz := by rw [← hus]; exact (List.getElem?_eq_some_iff.1 hj).1
                  have hflat := flat_at q1.sz f1 hj
                  have hlt := (List.getElem?_eq_some_iff.1 hflat).1
                  have ei : i * t''.sz + j = off * t''.sz + ((i - off) * t''.sz + j) := by
                    have : i = off + (i - off) := by omega
                    rw [show i * t''.sz = (off + (i - off)) * t''.sz by rw [← this], Nat.add_mul]; omega
                  rw [Nat.add_zero, hsp, if_pos ⟨by omega, by omega⟩, ei, Nat.add_sub_cancel_left]
                  exact hflat
                · rename_i hout
                  obtain ⟨us, f1, f2, f3⟩ := k5 i x hi
                  refine ⟨us, f1, f2, fun j u hj => ?_⟩
                  have hjl : j < t''.sz := by rw [← f1]; exact (List.getElem?_eq_some_iff.1 hj).1
                  rw [Nat.add_zero, hsp, if_neg, f3 j u hj]
                  rintro ⟨g1, g2⟩
                  rw [hflen, ← Nat.add_mul] at g2
                  rcases Nat.lt_or_ge i off with hi' | hi'
                  · have := Nat.mul_le_mul_right t''.sz (show i + 1 ≤ off from hi')
                    rw [Nat.succ_mul] at this
                    omega
                  · have := Nat.mul_le_mul_right t''.sz (show off + (ys.take len).length ≤ i by omega)
                    omega
              · rw [hι] at e1; cases e1
          · exact (run_fail h).elim
        · exact (run_fail h).elim
      · exact (run_fail h).elim
    · exact (run_fail h).elim
  · exact (run_fail h).elim
end
end Go.Proofs.Pen

namespace Go.Proofs.Pen
open Go RowKit

def SlotRel (r : Res) (tm : Array Value) : AV → Value → Prop
  | .when t p v, u => (tm.getD t Go.undef = .bool p ∧ VRel r v u) ∨ (tm.getD t Go.undef ≠ .bool p ∧ u = Go.undef)
  | v, u => VRel r v u

def SRel (r : Res) (ρ : Env) (tm : Array Value) : Prop := ∀ s, SlotRel r tm (ρ s) (tm.getD s Go.undef)

def isWhen : AV → Bool
  | .when _ _ _ => true
  | _ => false

theorem SlotRel.plain {r : Res} {tm : Array Value} {v : AV} {u : Value} (h : SlotRel r tm v u) (hw : isWhen v = false) : VRel r v u := by
  cases v <;> first | exact h | cases hw
theorem SlotRel.of {r : Res} {tm : Array Value} {v : AV} {u : Value} (h : VRel r v u) : SlotRel r tm v u := by
  cases v <;> first | exact h | (simp only [VRel] at h)

theorem SlotRel.mono {r r' : Res} {tm : Array Value} {v : AV} {u : Value} (hr : r.le r') (h : SlotRel r tm v u) : SlotRel r' tm v u := by
  cases v with
  | when t p v => rcases h with ⟨h1, h2⟩ | h; exact .inl ⟨h1, VRel.mono hr _ _ h2⟩; exact .inr h
  | _ => exact VRel.mono hr _ _ h

theorem SRel.mono {r r' : Res} {ρ : Env} {tm : Array Value} (hr : r.le r') (h : SRel r ρ tm) : SRel r' ρ tm := fun s => (h s).mono hr

theorem getD_set_self {tm : Array Value} {d : Nat} {u : Value} (h : d < tm.size) : (tm.setIfInBounds d u).getD d Go.undef = u := by
  simp [Array.getD_eq_getD_getElem?, h]
theorem getD_set_other {tm : Array Value} {d s : Nat} {u : Value} (h : s ≠ d) : (tm.setIfInBounds d u).getD s Go.undef = tm.getD s Go.undef := by
  simp only [Array.getD_eq_getD_getElem?, Array.getElem?_setIfInBounds]
  rw [if_neg (fun e => h e.symm)]

theorem SRel.put {r : Res} {ρ : Env} {tm : Array Value} (h : SRel r ρ tm) {d : Nat} (hd : d < tm.size) {v : AV} {u : Value} (hv : SlotRel r (tm.setIfInBounds d u) v u) : SRel r (put ρ d v) (tm.setIfInBounds d u) := by
  intro s
  rw [put_eq]
  by_cases hs : s = d
  · subst hs
    rw [if_pos rfl, getD_set_self hd]; exact hv
  · rw [if_neg hs, getD_set_other hs]
    have := h s
    split
    · rename_i t p x he
      split
      · simp [SlotRel, VRel]
      · rename_i htd
        rw [he] at this
        simp only [SlotRel, getD_set_other htd] at this ⊢
        exact this
    · rename_i hn
      have hw : isWhen (ρ s) = false := by
        cases hx : ρ s <;> first | rfl | exact (hn _ _ _ hx).elim
      exact .of (this.plain hw)

def Under (tm : Array Value) (as : Option (Nat × Bool)) : Prop := ∀ t p, as = some (t, p) → tm.getD t Go.undef = .bool p

theorem ev_rel {r : Res} {ρ : Env} {a : Act} {as : Option (Nat × Bool)} (h : SRel r ρ a.tmps) (hu : Under a.tmps as) (x : Operand) : VRel r (ev ρ as x) (a.eval x) := by
  cases x with
  | tmp t =>
    have ht := h t
    simp only [ev, Act.eval]
    split
    · rename_i t' p v he
      rw [he] at ht
      have htt := h t'
      have got : a.tmps.getD t' Go.undef = .bool p → VRel r v (a.tmps.getD t Go.undef) := fun e => by
        rcases ht with ⟨_, k⟩ | ⟨k, _⟩
        · exact k
        · exact absurd e k
      split
      · rename_i e1
        rw [e1] at htt
        exact got (by simpa [SlotRel, VRel] using htt)
      · rename_i e1
        rw [e1] at htt
        exact got (by simpa [SlotRel, VRel] using htt)
      · split
        · rename_i t'' p''
          split
          · rename_i e1
            split
            · rename_i e2
              subst e1 e2
              exact got (hu _ _ rfl)
            · simp [VRel]
          · simp [VRel]
        · simp [VRel]
    · rename_i v hn
      have hw : isWhen (ρ t) = false := by cases hx : ρ t <;> first | rfl | exact (hn _ _ _ hx).elim
      exact ht.plain hw
  | const v => exact ofConst_rel r v
  | global g => simp [ev, VRel]
  | func f =>
    simp only [ev, Act.eval, VRel, LRel]
    exact ⟨[], [], rfl, rfl, rfl⟩

theorem evO_rel {r : Res} {ρ : Env} {a : Act} {as : Option (Nat × Bool)} {o : Oper} (h : SRel r ρ a.tmps) (hu : Under a.tmps as) (x : Operand) : VRel r (evO o ρ as x) (a.eval x) := by
  unfold evO
  split
  · split
    · exact ev_rel h hu _
    · simp [VRel]
  · exact ev_rel h hu _

theorem evO_lit {ρ : Env} {as : Option (Nat × Bool)} {o : Oper} (x : Operand) (n : Int) (h : litInt x = some n) : ∃ k, evO o ρ as x = .it k n := by
  unfold litInt at h
  split at h
  · rename_i k m
    simp at h; subst h
    exact ⟨k, rfl⟩
  · cases h

structure StRel {P : Program} (w0 : Base P) (M : Nat → Prop) (st : St) (r : Res) (a : Act) (w : World) : Prop where
  rel : Rel w0 M (Sn st.own) st.own r w
  fr : SRel r st.ρ a.tmps
  size : a.tmps.size = st.n
  defers : a.defers = []

def DeepOK (P : Program) (q : Nat → List AV → List Blk → T (AV × List Blk)) : Prop :=
  ∀ g args own v own', (q g args own).run = some (v, own') → callable P g = true ∧ ∀ (w0 : Base P) (M : Nat → Prop) (r : Res) (w : World) (us : List Value), Rel w0 M (Sn own) own r w → LRel r args us →
    Calls P g us.toArray w fun e w' => ∃ u r', e = .returned u ∧ r.le r' ∧ Rel w0 M (Sn own') own' r' w' ∧ VRel r' v u

def LoudAt (P : Program) (own : List Blk) (e : Operand → AV) (o : Oper) (v : AV) (own' : List Blk) : Prop :=
  ∀ (w0 : Base P) (M : Nat → Prop) (r : Res) (w : World) (a : Act), Rel w0 M (Sn own) own r w → (∀ x, VRel r (e x) (a.eval x)) → (∀ x n, litInt x = some n → ∃ k, e x = .it k n) →
    Yields P o a w fun u w' => ∃ r', r.le r' ∧ Rel w0 M (Sn own') own' r' w' ∧ VRel r' v u

section
variable {P : Program} {own own' : List Blk} {e : Operand → AV} {o : Oper} {v : AV}

theorem QuietAt.loud (h : QuietAt P own e o v own') : LoudAt P own e o v own' := by
  obtain ⟨⟨blks, rfl⟩, h⟩ := h
  intro w0 M r w a hR hx hl
  have hR' : Rel w0 M (Sn own) (own ++ blks) r w := by
    have key : ∀ {i k}, Sn own i → (own ++ blks)[i]? = some k → own[i]? = some k := fun {i k} hi hk => by
      rwa [List.getElem?_append_left hi] at hk
    exact ⟨hR.os, hR.tape, hR.output, hR.size, hR.base, hR.pers, fun id k hs hk hl => hR.blk id k hs (key hs hk) hl,
      fun i j k l b C C' hi hj hk hl h1 h2 => hR.inj i j k l b C C' hi hj (key hi hk) (key hj hl) h1 h2, hR.dom, hR.up, hR.zero, hR.glob⟩
  refine (h w0 M (Sn own) (own ++ blks) r w a (fun _ _ => rfl) (fun i h1 _ h2 => by unfold Sn at h2; omega) hR' hx hl).mono ?_
  rintro u w' ⟨r', h1, h2, h3⟩
  refine ⟨r', h1, h2.congr fun i => ?_, h3⟩
  unfold Sn
  simp only [List.length_append]
  omega

theorem bare1_rel {r : Res} {v : AV} {u : Value} (h : VRel r v u) : VRel r v.bare1 u := by
  cases v <;> first | exact h | skip
  simp only [VRel] at h
  exact h.1

theorem append_sound {xs : Array Operand} {ts : Array TypeId} (ho : o.op = .call { callee := .builtin .append, args := xs, argTypes := ts }) {s x : Operand} {t t' : TypeId} (hxs : xs.toList = [s, x]) (hts : ts.toList = [t, t']) (hn : notInt P t' = true)
    (h : (appendAV P own t (e s) (e x).bare1).run = some (v, own')) : LoudAt P own e o v own' := by
  intro w0 M r w a hR hx hl
  obtain ⟨u, w', r', h1, h2, h3, h4⟩ := append_core (ty := o.type) hR hn h (hx s) (bare1_rel (hx x))
  have e1 : xs = #[s, x] := by rw [← Array.toArray_toList (xs := xs), hxs]
  have e2 : ts = #[t, t'] := by rw [← Array.toArray_toList (xs := ts), hts]
  subst e1 e2
  refine .value ?_ ⟨r', h2, h3, h4⟩
  have e0 : execOp a.eval o = (do let u ← Builtin.append_ #[t, t'] o.type #[a.eval s, a.eval x]; pure (.value u)) := by
    unfold execOp; rw [ho]
    simp [resolve, invoke]
    try rfl
  rw [e0]; simp [h1]

theorem loud_sound {F : Fns} (h : (loudOp P F own e o).run = some (v, own')) : LoudAt P own e o v own' := by
  unfold loudOp at h
  split at h
  · rename_i t ad x ho
    intro w0 M r w a hR hx hl
    obtain ⟨w', r', e1, e3, e2, rfl⟩ := storeFz_sound (P := P) hR h (hx ad) (hx x)
    have : (execOp a.eval o).run P w = .ok .skip w' := by
      have e0 : execOp a.eval o = (do Instr.storeAt t (a.eval ad) (a.eval x); pure .skip) := by unfold execOp; rw [ho]
      rw [e0]; simp [e1]
    exact .skip this ⟨r', e3, e2, by simp [VRel]⟩
  · rename_i xs ts ho
    split at h
    · rename_i s x t t' hxs hts
      split at h
      · rename_i hn
        exact append_sound ho hxs hts hn h
      · exact (run_fail h).elim
    · exact (run_fail h).elim
  · rename_i xs ts ho
    split at h
    · rename_i d s t t' hxs hts
      intro w0 M r w a hR hx hl
      obtain ⟨u, w', h1, h2, h3⟩ := copy_core (st := t') (ty := o.type) hR h (hx d) (hx s)
      have e1 : xs = #[d, s] := by rw [← Array.toArray_toList (xs := xs), hxs]
      have e2 : ts = #[t, t'] := by rw [← Array.toArray_toList (xs := ts), hts]
      subst e1 e2
      refine .value ?_ ⟨r, .refl r, h2, h3⟩
      have e0 : execOp a.eval o = (do let u ← Builtin.copy_ #[t, t'] o.type #[a.eval d, a.eval s]; pure (.value u)) := by
        unfold execOp; rw [ho]
        simp [resolve, invoke]
        try rfl
      rw [e0]; simp [h1]
    · exact (run_fail h).elim
  · rename_i t m k x ho
    split at h
    · rename_i id s ht hm hk
      split at h
      · rename_i l b hrow hb
        have := run_ret h; cases this
        intro w0 M r w a hR hx hl
        have hm' := hx m
        rw [hm] at hm'
        have hk' := hx k
        rw [hk] at hk'
        simp only [VRel] at hm' hk'
        have hx' : a.eval x = .bool b := by
          have hx' := hx x
          unfold AV.bool? at hb
          split at hb <;> cases hb <;> rename_i e1 <;> rw [e1] at hx' <;> simpa only [VRel] using hx'
        obtain ⟨bk, C, hι, e1⟩ := hm'
        have hid := rowAt_live (ownF := own) (fun _ _ => rfl) hrow rfl
        rcases hR.blk id _ (hR.there hι) hid rfl with ⟨b', C', e2, ⟨es, c, k1, k2⟩, _⟩ | ⟨e2, _⟩
        · rw [hι] at e2; cases e2
          obtain ⟨es', c', q1, q2⟩ := update_gives (P := P) ht k1 k2 s b
          have : (execOp a.eval o).run P w = .ok .skip (setBlk w bk (.map es' c')) := by
            have e0 : execOp a.eval o = (do Instr.mapUpdate t (a.eval m) (a.eval k) (a.eval x); pure .skip) := by unfold execOp; rw [ho]
            rw [e0, e1, hk', hx']; simp [q1]
          refine .skip this ⟨r, .refl r, ?_, by simp [VRel]⟩
          exact hR.write hid rfl hι ⟨es', c', setBlk_at k1, q2⟩
        · rw [hι] at e2; cases e2
      · exact (run_fail h).elim
    · exact (run_fail h).elim
  · exact (run_fail h).elim

theorem deep_sound {F : Fns} (hF : DeepOK P F.deep) {f : Operand} {xs : Array Operand} {ts : Array TypeId} (ho : o.op = .call { callee := .value f, args := xs, argTypes := ts }) {g : Nat} {l : List AV}
    (hc : callOf (e f) (xs.toList.map e) = some (g, l)) (h : (F.deep g l own).run = some (v, own')) : LoudAt P own e o v own' := by
  intro w0 M r w a hR hx hl
  obtain ⟨first, caps, hvf, hll⟩ := callOf_rel hc (hx f) (lrel hx xs.toList)
  obtain ⟨hg, hcalls⟩ := hF _ _ _ _ _ h
  refine .call (run_callValue ho hvf hg) ((hcalls w0 M r w _ hR hll).mono ?_)
  rintro e' w' ⟨u, r', rfl, h1, h2, h3⟩
  exact ⟨u, rfl, r', h1, h2, h3⟩

end
end Go.Proofs.Pen

namespace Go.Proofs.Pen
open Go RowKit

section
variable {P : Program} {own own' : List Blk} {o : Oper} {v : AV} {F : Fns} {D : Nat → Bool}

def Post {P : Program} (w0 : Base P) (M : Nat → Prop) (r : Res) (own' : List Blk) (v : AV) (u : Value) (w' : World) : Prop := ∃ r', r.le r' ∧ Rel w0 M (Sn own') own' r' w' ∧ VRel r' v u

theorem pick_rel {r : Res} {c a b z : AV} {x : Bool} {va vb : Value} (h : pickAV c a b = some z) (hc : VRel r c (.bool x)) (ha : x = true → VRel r a va) (hb : x = false → VRel r b vb) :
    VRel r z (if x then va else vb) := by
  unfold pickAV at h
  split at h
  · simp at h; subst h
    simp only [VRel, Value.bool.injEq] at hc
    subst hc; simpa using ha rfl
  · simp at h; subst h
    simp only [VRel, Value.bool.injEq] at hc
    subst hc; simpa using hb rfl
  · simp only [VRel, Value.bool.injEq] at hc
    subst hc
    cases x with
    | true =>
      have ha := ha rfl
      split at h <;> simp at h <;> subst h <;> simp only [VRel] at ha ⊢ <;> simp [ha]
    | false =>
      have hb := hb rfl
      split at h <;> simp at h <;> subst h <;> simp only [VRel] at hb ⊢ <;> simp [hb]
  · simp at h

theorem pick_bool {r : Res} {c a b z : AV} {u : Value} (h : pickAV c a b = some z) (hc : VRel r c u) : ∃ x, u = .bool x := by
  unfold pickAV at h
  split at h
  · exact ⟨true, by simpa only [VRel] using hc⟩
  · exact ⟨false, by simpa only [VRel] using hc⟩
  · exact ⟨_, by simpa only [VRel] using hc⟩
  · cases h

theorem pickOp_sound {r : Res} {ρ : Env} {as : Option (Nat × Bool)} {c a b : Operand} {act : Act} (h : pickOp ρ as c a b = some v) (hs : SRel r ρ act.tmps) (hu : Under act.tmps as) :
    ∃ x, act.eval c = .bool x ∧ VRel r v (if x then act.eval a else act.eval b) := by
  unfold pickOp at h
  split at h
  · rename_i t
    have hc := ev_rel hs hu (.tmp t)
    obtain ⟨x, hx⟩ := pick_bool h hc
    refine ⟨x, hx, ?_⟩
    rw [hx] at hc
    have ht : act.tmps.getD t Go.undef = .bool x := hx
    exact pick_rel h hc (fun e => ev_rel hs (fun t' p' e' => by cases e'; rw [ht, e]) a) (fun e => ev_rel hs (fun t' p' e' => by cases e'; rw [ht, e]) b)
  · have hc := ev_rel hs hu c
    obtain ⟨x, hx⟩ := pick_bool h hc
    refine ⟨x, hx, ?_⟩
    rw [hx] at hc
    exact pick_rel h hc (fun _ => ev_rel hs hu a) (fun _ => ev_rel hs hu b)

theorem doOp_own (hF : QuietOK P F.quiet) {as : Option (Nat × Bool)} {ρ : Env} (h : (doOp P F D false as ρ own o).run = some (v, own')) : ∃ blks, own' = own ++ blks := by
  unfold doOp at h
  split at h
  · split at h
    · have := run_ret h; cases this; exact ⟨[], by simp⟩
    · exact (run_fail h).elim
  · split at h
    · split at h
      · rename_i hd; simp at hd
      · split at h
        · rename_i t hq; exact (quiet_sound hF hq h).1
        · exact (run_fail h).elim
    · exact (run_fail h).elim
  · split at h
    · rename_i t hq; exact (quiet_sound hF hq h).1
    · simp at h; exact (run_fail h).elim

theorem doOp_sound (hF : QuietOK P F.quiet) (hD : DeepOK P F.deep) {loud : Bool} {as : Option (Nat × Bool)} {ρ : Env} (h : (doOp P F D loud as ρ own o).run = some (v, own')) {w0 : Base P} {M : Nat → Prop} {r : Res} {w : World} {a : Act}
    (hR : Rel w0 M (Sn own) own r w) (hs : SRel r ρ a.tmps) (hu : Under a.tmps as) : Yields P o a w (Post w0 M r own' v) := by
  unfold doOp at h
  split at h
  · rename_i c x y ho
    split at h
    · rename_i z hz
      have := run_ret h; cases this
      obtain ⟨b, e1, e2⟩ := pickOp_sound hz hs hu
      refine .value (w' := w) (u := if b then a.eval x else a.eval y) ?_ ⟨r, .refl r, hR, e2⟩
      have e0 : execOp a.eval o = (do let c ← asBool (a.eval c); pure (.value (if c then a.eval x else a.eval y))) := by unfold execOp; rw [ho]
      rw [e0, e1]; rfl
    · exact (run_fail h).elim
  · rename_i f xs ts ho
    split at h
    · rename_i g l hc
      split at h
      · exact deep_sound hD ho hc h w0 M r w a hR (fun x => evO_rel hs hu x) evO_lit
      · split at h
        · rename_i t hq
          exact (quiet_sound hF hq h).loud w0 M r w a hR (fun x => evO_rel hs hu x) evO_lit
        · exact (run_fail h).elim
    · exact (run_fail h).elim
  · split at h
    · rename_i t hq
      exact (quiet_sound hF hq h).loud w0 M r w a hR (fun x => evO_rel hs hu x) evO_lit
    · split at h
      · exact loud_sound h w0 M r w a hR (fun x => evO_rel hs hu x) evO_lit
      · exact (run_fail h).elim

def Steps1 (P : Program) (ops : Array Oper) (o : Oper) (a : Act) (w : World) (R : Act → World → Prop) : Prop :=
  ∀ (K : Act → World → Prop) (Q : Exit → Act → World → Prop), (∀ a' w', R a' w' → K a' w') → if Region.wanted o (yielded ops a.tmps) then o.wp P a w K Q else K (a.put o.dst Go.undef) w

theorem put_size (a : Act) (d : Option Nat) (u : Value) : (a.put d u).tmps.size = a.tmps.size := by cases d <;> simp [Act.put]
theorem put_defers (a : Act) (d : Option Nat) (u : Value) : (a.put d u).defers = a.defers := by cases d <;> rfl

theorem lay_sound {st st' : St} {d : Option Nat} (h : (lay st d v own').run = some st') {w0 : Base P} {M : Nat → Prop} {r : Res} {w : World} {a : Act} {u : Value} (hs : SRel r st.ρ a.tmps) (hz : a.tmps.size = st.n) (hd : a.defers = [])
    (hR : Rel w0 M (Sn own') own' r w) (hv : ∀ t, d = some t → SlotRel r (a.tmps.setIfInBounds t u) v u) : StRel w0 M st' r (a.put d u) w := by
  unfold lay at h
  split at h
  · have := run_ret h; subst this
    exact ⟨hR, hs, hz, hd⟩
  · rename_i t
    split at h
    · rename_i hlt
      have := run_ret h; subst this
      exact ⟨hR, hs.put (by rw [hz]; exact hlt) (hv t rfl), by simpa [Act.put] using hz, hd⟩
    · exact (run_fail h).elim

theorem yielded_eq {ops : Array Oper} {tm : Array Value} {g tg : Nat} (h : (ops[g]?).bind (·.dst) = some tg) : yielded ops tm g = match tm.getD tg Go.undef with | .bool b => some b | _ => none := by
  unfold yielded
  rw [h]
  simp only [Option.bind_some, Array.getD_eq_getD_getElem?]
  cases tm[tg]? with
  | none => simp [Go.undef]
  | some u => cases u <;> rfl

theorem SRel.know {r : Res} {ρ : Env} {tm : Array Value} (h : SRel r ρ tm) {d : Nat} {v : AV} (hv : SlotRel r tm v (tm.getD d Go.undef)) : SRel r (know ρ d v) tm := by
  intro s
  rw [know_eq]
  by_cases hs : s = d
  · subst hs; rw [if_pos rfl]; exact hv
  · rw [if_neg hs]; exact h s

theorem stepOp_sound (hF : QuietOK P F.quiet) (hD : DeepOK P F.deep) {ops : Array Oper} {st st' : St} (h : (stepOp P F D ops true st o).run = some st') {w0 : Base P} {M : Nat → Prop} {r : Res} {w : World} {a : Act}
    (hR : StRel w0 M st r a w) : Steps1 P ops o a w fun a' w' => ∃ r', r.le r' ∧ StRel w0 M st' r' a' w' := by
  -- carrying it out
  have hrun : ∀ {st1 : St}, ((doOp P F D true none st1.ρ st1.own o).bind fun x => lay st1 o.dst x.1 x.2).run = some st' → StRel w0 M st1 r a w → Yields P o a w fun u w' => ∃ r', r.le r' ∧ StRel w0 M st' r' (a.put o.dst u) w' := by
    intro st1 h1 hR1
    obtain ⟨⟨v, own'⟩, e1, e2⟩ := run_bind h1
    refine (doOp_sound hF hD e1 hR1.rel hR1.fr (fun _ _ e => by cases e)).mono ?_
    rintro u w' ⟨r', k1, k2, k3⟩
    exact ⟨r', k1, lay_sound e2 (hR1.fr.mono k1) hR1.size hR1.defers k2 fun t _ => .of k3⟩
  -- leaving it out
  have hskip : ∀ {st1 : St}, (lay st1 o.dst .undef st1.own).run = some st' → StRel w0 M st1 r a w → StRel w0 M st' r (a.put o.dst Go.undef) w := by
    intro st1 h1 hR1
    exact lay_sound h1 hR1.fr hR1.size hR1.defers hR1.rel fun t _ => .of (by simp [VRel])
  have wantRun : ∀ {R : Value → World → Prop}, Region.wanted o (yielded ops a.tmps) = true → Yields P o a w R → (∀ u w', R u w' → ∃ r', r.le r' ∧ StRel w0 M st' r' (a.put o.dst u) w') → Steps1 P ops o a w fun a' w' => ∃ r', r.le r' ∧ StRel w0 M st' r' a' w' := by
    intro R hw hy hk K Q hK
    rw [if_pos hw]
    exact hy K Q fun u w' hu => hK _ _ (hk u w' hu)
  have wantSkip : Region.wanted o (yielded ops a.tmps) = false → StRel w0 M st' r (a.put o.dst Go.undef) w → Steps1 P ops o a w fun a' w' => ∃ r', r.le r' ∧ StRel w0 M st' r' a' w' := by
    intro hw hk K Q hK
    rw [hw]
    exact hK _ _ ⟨r, .refl r, hk⟩
  unfold stepOp at h
  dsimp only at h
  split at h
  · rename_i hg
    exact wantRun (by simp [Region.wanted, hg]) (hrun h hR) fun _ _ k => k
  · rename_i g p hg
    split at h
    · exact (run_fail h).elim
    · rename_i tg htg
      have hwant : Region.wanted o (yielded ops a.tmps) = ((match a.tmps.getD tg Go.undef with | .bool b => some b | _ => none) == some p) := by
        simp only [Region.wanted, hg]
        rw [yielded_eq htg]
      have hwb : ∀ {b : Bool}, a.tmps.getD tg Go.undef = .bool b → Region.wanted o (yielded ops a.tmps) = (b == p) := by
        intro b e; rw [hwant, e]; simp
      have hwu : a.tmps.getD tg Go.undef = Go.undef → Region.wanted o (yielded ops a.tmps) = false := by
        intro e; rw [hwant, e]; rfl
      -- an operation carried out ahead
      have hahead : ((doOp P F D false (some (tg, p)) st.ρ st.own o).bind fun x => if x.2.length = st.own.length ∧ o.dst ≠ some tg then lay st o.dst (.when tg p x.1) st.own else .fail).run = some st' →
          Steps1 P ops o a w fun a' w' => ∃ r', r.le r' ∧ StRel w0 M st' r' a' w' := by
        intro h1
        obtain ⟨⟨v, own'⟩, e1, e2⟩ := run_bind h1
        split at e2
        · rename_i hc
          dsimp only at hc e2
          by_cases hb : a.tmps.getD tg Go.undef = .bool p
          · refine wantRun (by rw [hwb hb]; simp) (doOp_sound hF hD e1 hR.rel hR.fr (fun t q e => by cases e; exact hb)) ?_
            rintro u w' ⟨r', k1, k2, k3⟩
            refine ⟨r', k1, lay_sound (own' := st.own) e2 (hR.fr.mono k1) hR.size hR.defers ?_ fun t ht => ?_⟩
            · have : own' = st.own := by
                obtain ⟨blks, rfl⟩ := doOp_own hF e1
                have h0 := hc.1
                rw [List.length_append] at h0
                rw [List.eq_nil_of_length_eq_zero (by omega : blks.length = 0), List.append_nil]
              rw [this] at k2; exact k2
            · refine .inl ⟨?_, k3⟩
              rw [getD_set_other (fun e => hc.2 (by rw [ht, e]))]; exact hb
          · have hw : Region.wanted o (yielded ops a.tmps) = false := by
              rw [hwant]
              split
              · rename_i b e; rw [e] at hb; simp at hb ⊢; exact hb
              · rfl
            refine wantSkip hw (lay_sound (own' := st.own) e2 hR.fr hR.size hR.defers hR.rel fun t ht => ?_)
            refine .inr ⟨?_, rfl⟩
            rw [getD_set_other (fun e => hc.2 (by rw [ht, e]))]; exact hb
        · exact (run_fail e2).elim
      -- a test that is decided
      have hdecided : ∀ {ρ : Env} {x : Bool}, SRel r ρ a.tmps → a.tmps.getD tg Go.undef = .bool x →
          (T.ite x (if p = true then (doOp P F D true none (know ρ tg .tt) st.own o).bind fun y => lay { st with ρ := know ρ tg .tt } o.dst y.1 y.2 else lay { st with ρ := know ρ tg .tt } o.dst .undef st.own)
            (if p = true then lay { st with ρ := know ρ tg .ff } o.dst .undef st.own else (doOp P F D true none (know ρ tg .ff) st.own o).bind fun y => lay { st with ρ := know ρ tg .ff } o.dst y.1 y.2)).run = some st' →
          Steps1 P ops o a w fun a' w' => ∃ r', r.le r' ∧ StRel w0 M st' r' a' w' := by
        intro ρ x hρ hx h1
        rcases run_ite h1 with ⟨hxb, h2⟩ | ⟨hxb, h2⟩ <;> subst hxb
        · have hR1 : StRel w0 M { st with ρ := know ρ tg .tt } r a w := ⟨hR.rel, hρ.know (by rw [hx]; simp [SlotRel, VRel]), hR.size, hR.defers⟩
          by_cases hp : p = true
          · rw [if_pos hp] at h2
            exact wantRun (by rw [hwb hx, hp]; rfl) (hrun h2 hR1) fun _ _ k => k
          · rw [if_neg hp] at h2
            exact wantSkip (by rw [hwb hx]; simp at hp; rw [hp]; rfl) (hskip h2 hR1)
        · have hR1 : StRel w0 M { st with ρ := know ρ tg .ff } r a w := ⟨hR.rel, hρ.know (by rw [hx]; simp [SlotRel, VRel]), hR.size, hR.defers⟩
          by_cases hp : p = true
          · rw [if_pos hp] at h2
            exact wantSkip (by rw [hwb hx, hp]; rfl) (hskip h2 hR1)
          · rw [if_neg hp] at h2
            exact wantRun (by rw [hwb hx]; simp at hp; rw [hp]; rfl) (hrun h2 hR1) fun _ _ k => k
      have hslot := hR.fr tg
      split at h
      · rename_i he
        rw [he] at hslot
        have hx : a.tmps.getD tg Go.undef = .bool true := by simpa [SlotRel, VRel] using hslot
        split at h
        · rename_i hp; subst hp
          exact wantRun (by rw [hwb hx]; rfl) (hrun h hR) fun _ _ k => k
        · rename_i hp
          exact wantSkip (by rw [hwb hx]; simp at hp; rw [hp]; rfl) (hskip h hR)
      · rename_i he
        rw [he] at hslot
        have hx : a.tmps.getD tg Go.undef = .bool false := by simpa [SlotRel, VRel] using hslot
        split at h
        · rename_i hp; subst hp
          exact wantSkip (by rw [hwb hx]; rfl) (hskip h hR)
        · rename_i hp
          exact wantRun (by rw [hwb hx]; simp at hp; rw [hp]; rfl) (hrun h hR) fun _ _ k => k
      · rename_i he
        rw [he] at hslot
        exact wantSkip (hwu (by simpa [SlotRel, VRel] using hslot)) (hskip h hR)
      · rename_i x he
        rw [he] at hslot
        have hx : a.tmps.getD tg Go.undef = .bool x := by simpa [SlotRel, VRel] using hslot
        split at h
        · exact hahead h
        · exact hdecided hR.fr hx h
      · rename_i tg' p' x he
        rw [he] at hslot
        split at h
        · exact hahead h
        · split at h
          · rename_i y hy
            have hslot' := hR.fr tg'
            rw [hy] at hslot'
            have hy' : a.tmps.getD tg' Go.undef = .bool y := by simpa [SlotRel, VRel] using hslot'
            rcases run_ite h with ⟨hb, h⟩ | ⟨hb, h⟩
            · have hyp : y = p' := by cases p' <;> simp at hb <;> simp [hb]
              subst hyp
              rcases hslot with ⟨_, k⟩ | ⟨k, _⟩
              · refine hdecided (hR.fr.know ?_) (by simpa only [VRel] using k) h
                rw [hy']; cases y <;> simp [SlotRel, VRel]
              · exact absurd hy' k
            · have hyp : y ≠ p' := by cases p' <;> simp at hb <;> simp [hb]
              rcases hslot with ⟨k, _⟩ | ⟨_, k⟩
              · rw [hy'] at k; simp at k; exact absurd k hyp
              · refine wantSkip (hwu k) (hskip h ⟨hR.rel, (hR.fr.know ?_).know ?_, hR.size, hR.defers⟩)
                · rw [hy']
                  have : y = !p' := by cases y <;> cases p' <;> simp_all
                  rw [this]; cases p' <;> simp [SlotRel, VRel]
                · rw [k]; simp [SlotRel, VRel]
          · exact (run_fail h).elim
      · exact (run_fail h).elim

end
end Go.Proofs.Pen

namespace Go.Proofs.Pen
open Go RowKit

def SOn (A : Nat → Prop) (r : Res) (ρ : Env) (tm : Array Value) : Prop := ∀ s, A s → SlotRel r tm (ρ s) (tm.getD s Go.undef)
def Closed (ρ : Env) (A : Nat → Prop) : Prop := ∀ s t p v, A s → ρ s = .when t p v → A t

def Ref (ρ ρ1 : Env) : Prop := ∀ (r : Res) (tm : Array Value) (A : Nat → Prop), Closed ρ A → SOn A r ρ tm → SOn A r ρ1 tm ∧ Closed ρ1 A

def Tested (ρ : Env) (tg : Nat) (x : Option Bool) : Prop := ∀ (r : Res) (tm : Array Value) (A : Nat → Prop), Closed ρ A → A tg → SOn A r ρ tm → tm.getD tg Go.undef = (match x with | some b => .bool b | none => Go.undef)

theorem Ref.refl (ρ : Env) : Ref ρ ρ := fun _ _ _ h k => ⟨k, h⟩
theorem Ref.know {ρ ρ2 : Env} (h1 : Ref ρ ρ2) {tg : Nat} {v : AV} (hw : isWhen v = false) (h : ∀ (r : Res) (tm : Array Value) (A : Nat → Prop), Closed ρ A → SOn A r ρ tm → A tg → VRel r v (tm.getD tg Go.undef)) : Ref ρ (know ρ2 tg v) := by
  intro r tm A hc hs
  obtain ⟨k1, k2⟩ := h1 r tm A hc hs
  constructor
  · intro s hA
    rw [know_eq]
    by_cases e : s = tg
    · subst e; rw [if_pos rfl]; exact .of (h r tm A hc hs hA)
    · rw [if_neg e]; exact k1 s hA
  · intro s t p u hA e
    rw [know_eq] at e
    split at e
    · subst e; cases hw
    · exact k2 s t p u hA e

section
variable {P : Program} {F : Fns} {D : Nat → Bool} {o : Oper}

inductive StepWay (P : Program) (F : Fns) (D : Nat → Bool) (ops : Array Oper) (loud : Bool) (st : St) (o : Oper) (st' : St) : Prop
  | run (ρ1 : Env) (h1 : Ref st.ρ ρ1) (h2 : o.guard = none ∨ ∃ g p tg, o.guard = some (g, p) ∧ (ops[g]?).bind (·.dst) = some tg ∧ Tested st.ρ tg (some p))
      (h3 : ((doOp P F D loud none ρ1 st.own o).bind fun x => lay { st with ρ := ρ1 } o.dst x.1 x.2).run = some st')
  | skip (ρ1 : Env) (h1 : Ref st.ρ ρ1) (g : Nat) (p : Bool) (tg : Nat) (x : Option Bool) (h2 : o.guard = some (g, p)) (h3 : (ops[g]?).bind (·.dst) = some tg) (h4 : Tested st.ρ tg x) (h5 : x ≠ some p)
      (h6 : (lay { st with ρ := ρ1 } o.dst .undef st.own).run = some st')
  | ahead (g : Nat) (p : Bool) (tg : Nat) (h2 : o.guard = some (g, p)) (h3 : (ops[g]?).bind (·.dst) = some tg)
      (h4 : ((doOp P F D false (some (tg, p)) st.ρ st.own o).bind fun x => if x.2.length = st.own.length ∧ o.dst ≠ some tg then lay st o.dst (.when tg p x.1) st.own else .fail).run = some st')

theorem step_way {ops : Array Oper} {loud : Bool} {st st' : St} (h : (stepOp P F D ops loud st o).run = some st') : StepWay P F D ops loud st o st' := by
  unfold stepOp at h
  dsimp only at h
  split at h
  · rename_i hg
    exact .run st.ρ (.refl _) (.inl hg) h
  · rename_i g p hg
    split at h
    · exact (run_fail h).elim
    · rename_i tg htg
      have hdecided : ∀ {ρ : Env} {x : Bool}, Ref st.ρ ρ → Tested st.ρ tg (some x) →
          (T.ite x (if p = true then (doOp P F D loud none (know ρ tg .tt) st.own o).bind fun y => lay { st with ρ := know ρ tg .tt } o.dst y.1 y.2 else lay { st with ρ := know ρ tg .tt } o.dst .undef st.own)
            (if p = true then lay { st with ρ := know ρ tg .ff } o.dst .undef st.own else (doOp P F D loud none (know ρ tg .ff) st.own o).bind fun y => lay { st with ρ := know ρ tg .ff } o.dst y.1 y.2)).run = some st' →
          StepWay P F D ops loud st o st' := by
        intro ρ x hρ hx h1
        have hk : ∀ (b : AV), (b = if x then .tt else .ff) → Ref st.ρ (know ρ tg b) := fun b e => hρ.know (by subst e; cases x <;> rfl) fun r tm A hc hs hA => by
          rw [hx r tm A hc hA hs]; subst e; cases x <;> simp [VRel]
        rcases run_ite h1 with ⟨hxb, h2⟩ | ⟨hxb, h2⟩ <;> subst hxb
        · by_cases hp : p = true
          · rw [if_pos hp] at h2; subst hp
            exact .run _ (hk .tt rfl) (.inr ⟨g, _, tg, hg, htg, hx⟩) h2
          · rw [if_neg hp] at h2
            exact .skip _ (hk .tt rfl) g p tg _ hg htg hx (fun e => hp (Option.some.inj e).symm) h2
        · by_cases hp : p = true
          · rw [if_pos hp] at h2; subst hp
            exact .skip _ (hk .ff rfl) g _ tg _ hg htg hx (by simp) h2
          · rw [if_neg hp] at h2
            have : p = false := by simpa using hp
            subst this
            exact .run _ (hk .ff rfl) (.inr ⟨g, _, tg, hg, htg, hx⟩) h2
      split at h
      · rename_i he
        have hx : Tested st.ρ tg (some true) := fun r tm A _ hA hs => by have := hs tg hA; rw [he] at this; simpa [SlotRel, VRel] using this
        split at h
        · rename_i hp; subst hp
          exact .run _ (.refl _) (.inr ⟨g, _, tg, hg, htg, hx⟩) h
        · rename_i hp
          exact .skip _ (.refl _) g p tg _ hg htg hx (fun e => hp (Option.some.inj e).symm) h
      · rename_i he
        have hx : Tested st.ρ tg (some false) := fun r tm A _ hA hs => by have := hs tg hA; rw [he] at this; simpa [SlotRel, VRel] using this
        split at h
        · rename_i hp; subst hp
          exact .skip _ (.refl _) g _ tg _ hg htg hx (by simp) h
        · rename_i hp
          have : p = false := by simpa using hp
          subst this
          exact .run _ (.refl _) (.inr ⟨g, _, tg, hg, htg, hx⟩) h
      · rename_i he
        have hx : Tested st.ρ tg none := fun r tm A _ hA hs => by have := hs tg hA; rw [he] at this; simpa [SlotRel, VRel] using this
        exact .skip _ (.refl _) g p tg _ hg htg hx (by simp) h
      · rename_i x he
        split at h
        · exact .ahead g p tg hg htg h
        · refine hdecided (.refl _) (fun r tm A _ hA hs => ?_) h
          have := hs tg hA; rw [he] at this; simpa [SlotRel, VRel] using this
      · rename_i tg' p' x he
        split at h
        · exact .ahead g p tg hg htg h
        · split at h
          · rename_i y hy
            have hy' : Tested st.ρ tg' (some y) := fun r tm A _ hA hs => by have := hs tg' hA; rw [hy] at this; simpa [SlotRel, VRel] using this
            have hslot : ∀ (r : Res) (tm : Array Value) (A : Nat → Prop), Closed st.ρ A → A tg → SOn A r st.ρ tm → tm.getD tg' Go.undef = .bool y ∧ ((y = p' ∧ tm.getD tg Go.undef = .bool x) ∨ (y ≠ p' ∧ tm.getD tg Go.undef = Go.undef)) := fun r tm A hc hA hs => by
              have h1 := hy' r tm A hc (hc tg tg' p' _ hA he) hs
              have h2 := hs tg hA
              rw [he] at h2
              refine ⟨h1, ?_⟩
              rcases h2 with ⟨k, k2⟩ | ⟨k, k2⟩
              · rw [h1] at k; simp at k; exact .inl ⟨k, by simpa only [VRel] using k2⟩
              · rw [h1] at k; simp at k; exact .inr ⟨k, k2⟩
            have hk' : ∀ (b : AV), (b = if y then .tt else .ff) → Ref st.ρ (know st.ρ tg' b) := fun b e => (Ref.refl _).know (by subst e; cases y <;> rfl) fun r tm A hc hs hA => by
              rw [hy' r tm A hc hA hs]; subst e; cases y <;> simp [VRel]
            rcases run_ite h with ⟨hb, h⟩ | ⟨hb, h⟩
            · have hyp : y = p' := by cases p' <;> simp at hb <;> simp [hb]
              subst hyp
              refine hdecided (hk' _ (by cases y <;> rfl)) (fun r tm A hc hA hs => ?_) h
              rcases (hslot r tm A hc hA hs).2 with ⟨_, k⟩ | ⟨k, _⟩
              · exact k
              · exact absurd rfl k
            · have hyp : y ≠ p' := by cases p' <;> simp at hb <;> simp [hb]
              have hu : Tested st.ρ tg none := fun r tm A hc hA hs => by
                rcases (hslot r tm A hc hA hs).2 with ⟨k, _⟩ | ⟨_, k⟩
                · exact absurd k hyp
                · exact k
              refine .skip _ ((hk' (if p' = true then .ff else .tt) ?_).know (v := .undef) rfl fun r tm A hc hs hA => ?_) g p tg none hg htg hu (by simp) h
              · cases y <;> cases p' <;> simp_all
              · rw [hu r tm A hc hA hs]; simp [VRel]
          · exact (run_fail h).elim
      · exact (run_fail h).elim

theorem lay_env {st st' : St} {d : Option Nat} {v : AV} {own' : List Blk} (h : (lay st d v own').run = some st') : st'.own = own' ∧ st'.n = st.n ∧ ((d = none ∧ st'.ρ = st.ρ) ∨ ∃ t, d = some t ∧ t < st.n ∧ st'.ρ = put st.ρ t v) := by
  unfold lay at h
  split at h
  · have := run_ret h; subst this; exact ⟨rfl, rfl, .inl ⟨rfl, rfl⟩⟩
  · rename_i t
    split at h
    · rename_i hlt
      have := run_ret h; subst this; exact ⟨rfl, rfl, .inr ⟨t, rfl, hlt, rfl⟩⟩
    · exact (run_fail h).elim

theorem put_other {ρ : Env} {A : Nat → Prop} {r : Res} {tm : Array Value} {d : Nat} {v : AV} (hc : Closed ρ A) (hs : SOn A r ρ tm) (hd : ¬ A d) : SOn A r (put ρ d v) tm ∧ Closed (put ρ d v) A := by
  constructor
  · intro s hA
    rw [put_eq]
    rw [if_neg (fun e => by subst e; exact hd hA)]
    have := hs s hA
    split
    · rename_i t p x he
      split
      · simp [SlotRel, VRel]
      · rw [he] at this; exact this
    · exact this
  · intro s t p u hA e
    rw [put_eq] at e
    rw [if_neg (fun e => by subst e; exact hd hA)] at e
    split at e
    · rename_i t' p' x he
      split at e
      · cases e
      · cases e; exact hc s _ _ _ hA he
    · exact hc s t p u hA e

theorem step_fwd {ops : Array Oper} {loud : Bool} {st st' : St} (h : (stepOp P F D ops loud st o).run = some st') {A : Nat → Prop} {r : Res} {tm : Array Value} (hc : Closed st.ρ A) (hs : SOn A r st.ρ tm) (hd : ∀ d, o.dst = some d → ¬ A d) :
    SOn A r st'.ρ tm ∧ Closed st'.ρ A := by
  have fin : ∀ {ρ1 : Env} {v : AV} {own' : List Blk}, SOn A r ρ1 tm → Closed ρ1 A → (lay { st with ρ := ρ1 } o.dst v own').run = some st' → SOn A r st'.ρ tm ∧ Closed st'.ρ A := by
    intro ρ1 v own' k1 k2 k3
    rcases (lay_env k3).2.2 with ⟨_, e⟩ | ⟨t, e1, _, e2⟩
    · rw [e]; exact ⟨k1, k2⟩
    · rw [e2]; exact put_other k2 k1 (hd t e1)
  rcases step_way h with ⟨ρ1, h1, _, h3⟩ | ⟨ρ1, h1, g, p, tg, x, _, _, _, _, h6⟩ | ⟨g, p, tg, _, _, h4⟩
  · obtain ⟨k1, k2⟩ := h1 r tm A hc hs
    obtain ⟨⟨v, own'⟩, e1, e2⟩ := run_bind h3
    exact fin k1 k2 e2
  · obtain ⟨k1, k2⟩ := h1 r tm A hc hs
    exact fin k1 k2 h6
  · obtain ⟨⟨v, own'⟩, e1, e2⟩ := run_bind h4
    split at e2
    · exact fin hs hc e2
    · exact (run_fail e2).elim

theorem step_own (hF : QuietOK P F.quiet) {ops : Array Oper} {st st' : St} (h : (stepOp P F D ops false st o).run = some st') : (∃ blks, st'.own = st.own ++ blks) ∧ st'.n = st.n := by
  rcases step_way h with ⟨ρ1, h1, _, h3⟩ | ⟨ρ1, h1, g, p, tg, x, _, _, _, _, h6⟩ | ⟨g, p, tg, _, _, h4⟩
  · obtain ⟨⟨v, own'⟩, e1, e2⟩ := run_bind h3
    obtain ⟨k1, k2, _⟩ := lay_env e2
    rw [k1]; exact ⟨doOp_own hF e1, k2⟩
  · obtain ⟨k1, k2, _⟩ := lay_env h6
    exact ⟨⟨[], by rw [k1]; simp⟩, k2⟩
  · obtain ⟨⟨v, own'⟩, e1, e2⟩ := run_bind h4
    split at e2
    · obtain ⟨k1, k2, _⟩ := lay_env e2
      exact ⟨⟨[], by rw [k1]; simp⟩, k2⟩
    · exact (run_fail e2).elim

end
end Go.Proofs.Pen

namespace Go.Proofs.Pen
open Go RowKit

open Classical in
noncomputable def Env.only (ρ : Env) (A : Nat → Prop) : Env := fun s => if A s then ρ s else .junk

theorem SOn.only {A : Nat → Prop} {r : Res} {ρ : Env} {tm : Array Value} (h : SOn A r ρ tm) : SRel r (ρ.only A) tm := fun s => by
  unfold Env.only
  split
  · rename_i hA; exact h s hA
  · simp [SlotRel, VRel]

theorem ev_only {ρ : Env} {A : Nat → Prop} (hc : Closed ρ A) (as : Option (Nat × Bool)) {x : Operand} (h : ∀ t, x = .tmp t → A t) : ev (ρ.only A) as x = ev ρ as x := by
  cases x with
  | tmp t =>
    have hA := h t rfl
    have e1 : (ρ.only A) t = ρ t := if_pos hA
    simp only [ev, e1]
    split
    · rename_i t' p v he
      have : (ρ.only A) t' = ρ t' := if_pos (hc t t' p v hA he)
      rw [this]
    · rfl
  | _ => rfl

section
variable {P : Program} {own own' : List Blk} {o : Oper} {v : AV} {F : Fns} {D : Nat → Bool} {w0 : Base P} {w : World} {M S : Nat → Prop} {ownF : List Blk} {r : Res} {a : Act}

theorem mem_opTmps {o : Oper} {t : Nat} : t ∈ opTmps o ↔ .tmp t ∈ o.op.operands.toList := by
  unfold opTmps
  rw [List.mem_filterMap]
  constructor
  · rintro ⟨x, h1, h2⟩
    cases x <;> simp at h2
    subst h2; exact h1
  · intro h; exact ⟨_, h, rfl⟩

theorem evO_only {ρ : Env} {A : Nat → Prop} (hc : Closed ρ A) (as : Option (Nat × Bool)) (h : ∀ t, t ∈ opTmps o → A t) : evO o (ρ.only A) as = evO o ρ as := by
  funext x
  cases x with
  | tmp t =>
    simp only [evO]
    split
    · rename_i ht
      exact ev_only hc as fun t' e => by cases e; exact h t (by simpa using ht)
    · rfl
  | _ => rfl

theorem pickOp_only {ρ : Env} {A : Nat → Prop} (hc : Closed ρ A) (as : Option (Nat × Bool)) {c x y : Operand} (h : ∀ t, .tmp t ∈ [c, x, y] → A t) : pickOp (ρ.only A) as c x y = pickOp ρ as c x y := by
  have h1 : ∀ as, ev (ρ.only A) as c = ev ρ as c := fun as => ev_only hc as fun t e => h t (by simp [e])
  have h2 : ∀ as, ev (ρ.only A) as x = ev ρ as x := fun as => ev_only hc as fun t e => h t (by simp [e])
  have h3 : ∀ as, ev (ρ.only A) as y = ev ρ as y := fun as => ev_only hc as fun t e => h t (by simp [e])
  unfold pickOp
  split
  · rename_i t
    rw [h1, h2, h3]
  · rw [h1, h2, h3]

theorem doOp_only {loud : Bool} {ρ : Env} {A : Nat → Prop} (hc : Closed ρ A) (as : Option (Nat × Bool)) (h : ∀ t, t ∈ opTmps o → A t) : doOp P F D loud as (ρ.only A) own o = doOp P F D loud as ρ own o := by
  unfold doOp
  rw [evO_only hc as h]
  split
  · rename_i c x y ho
    rw [pickOp_only hc as fun t ht => h t (by rw [mem_opTmps, ho]; simpa [Op.operands] using ht)]
  · rfl
  · rfl

def QPost (w0 : Base P) (M S : Nat → Prop) (own own' ownF : List Blk) (r : Res) (v : AV) (u : Value) (w' : World) : Prop :=
  ∃ r', r.le r' ∧ Rel w0 M (fun i => S i ∨ (own.length ≤ i ∧ i < own'.length)) ownF r' w' ∧ VRel r' v u

theorem doOpQ_sound (hF : QuietOK P F.quiet) {as : Option (Nat × Bool)} {ρ : Env} (h : (doOp P F D false as ρ own o).run = some (v, own')) (hR : Rel w0 M S ownF r w) (ha : Agree own' ownF) (hn : ∀ i, own.length ≤ i → i < own'.length → ¬ S i)
    (hs : SRel r ρ a.tmps) (hu : Under a.tmps as) : Yields P o a w (QPost w0 M S own own' ownF r v) := by
  unfold doOp at h
  split at h
  · rename_i c x y ho
    split at h
    · rename_i z hz
      have := run_ret h; cases this
      obtain ⟨b, e1, e2⟩ := pickOp_sound hz hs hu
      refine .value (w' := w) (u := if b then a.eval x else a.eval y) ?_ ⟨r, .refl r, hR.congr fun i => ⟨.inl, fun h => by rcases h with h | h; exact h; omega⟩, e2⟩
      have e0 : execOp a.eval o = (do let c ← asBool (a.eval c); pure (.value (if c then a.eval x else a.eval y))) := by unfold execOp; rw [ho]
      rw [e0, e1]; rfl
    · exact (run_fail h).elim
  · split at h
    · split at h
      · rename_i hd; simp at hd
      · split at h
        · rename_i t hq
          exact (quiet_sound hF hq h).2 w0 M S ownF r w a ha hn hR (fun x => evO_rel hs hu x) evO_lit
        · exact (run_fail h).elim
    · exact (run_fail h).elim
  · split at h
    · rename_i t hq
      exact (quiet_sound hF hq h).2 w0 M S ownF r w a ha hn hR (fun x => evO_rel hs hu x) evO_lit
    · simp at h; exact (run_fail h).elim

theorem put_self {ρ : Env} {d : Nat} {v : AV} : put ρ d v d = v := by rw [put_eq]; rw [if_pos rfl]

theorem stepQ_sound (hF : QuietOK P F.quiet) {ops : Array Oper} {st st' : St} (h : (stepOp P F D ops false st o).run = some st') {A : Nat → Prop} (hR : Rel w0 M S ownF r w) (ha : Agree st'.own ownF) (hn : ∀ i, st.own.length ≤ i → i < st'.own.length → ¬ S i)
    (hc : Closed st.ρ A) (hs : SOn A r st.ρ a.tmps) (hl : ∀ t, t ∈ o.looksAt ops → A t) (hz : a.tmps.size = st.n) :
    Steps1 P ops o a w fun a' w' => ∃ r' u, r.le r' ∧ Rel w0 M (fun i => S i ∨ (st.own.length ≤ i ∧ i < st'.own.length)) ownF r' w' ∧ a' = a.put o.dst u ∧
      ∀ d, o.dst = some d → d < a.tmps.size ∧ SlotRel r' (a.tmps.setIfInBounds d u) (st'.ρ d) u ∧ ∀ t p v, st'.ρ d = .when t p v → t ∈ o.looksAt ops := by
  have hop : ∀ t, t ∈ opTmps o → A t := fun t ht => hl t (List.mem_append_left _ ht)
  have hin : ∀ {g p tg}, o.guard = some (g, p) → (ops[g]?).bind (·.dst) = some tg → tg ∈ o.looksAt ops := fun {g p tg} e1 e2 => List.mem_append_right _ (by rw [e1]; dsimp only; rw [e2]; simp)
  have hgt : ∀ {g p tg}, o.guard = some (g, p) → (ops[g]?).bind (·.dst) = some tg → A tg := fun {g p tg} e1 e2 => hl tg (List.mem_append_right _ (by rw [e1]; dsimp only; rw [e2]; simp))
  have hsame : ∀ {own1 : List Blk}, own1.length = st.own.length → Rel w0 M (fun i => S i ∨ (st.own.length ≤ i ∧ i < own1.length)) ownF r w := fun {own1} e => hR.congr fun i => ⟨.inl, fun h => by rcases h with h | h; exact h; omega⟩
  have hskip : ∀ {ρ1 : Env} {v1 : AV} {own1 : List Blk}, own1.length = st.own.length → (lay { st with ρ := ρ1 } o.dst v1 own1).run = some st' → (∀ d, o.dst = some d → SlotRel r (a.tmps.setIfInBounds d Go.undef) v1 Go.undef) → (∀ t p v, v1 = .when t p v → t ∈ o.looksAt ops) → Region.wanted o (yielded ops a.tmps) = false →
      Steps1 P ops o a w fun a' w' => ∃ r' u, r.le r' ∧ Rel w0 M (fun i => S i ∨ (st.own.length ≤ i ∧ i < st'.own.length)) ownF r' w' ∧ a' = a.put o.dst u ∧ ∀ d, o.dst = some d → d < a.tmps.size ∧ SlotRel r' (a.tmps.setIfInBounds d u) (st'.ρ d) u ∧ ∀ t p v, st'.ρ d = .when t p v → t ∈ o.looksAt ops := by
    intro ρ1 v1 own1 hlen h1 h2 h2' hw K Q hK
    rw [hw]
    obtain ⟨k1, k2, k3⟩ := lay_env h1
    refine hK _ _ ⟨r, Go.undef, .refl r, hsame (by rw [k1]; exact hlen), rfl, fun d hd => ?_⟩
    rcases k3 with ⟨e, _⟩ | ⟨t, e1, e2, e3⟩
    · rw [hd] at e; cases e
    · rw [hd] at e1; cases e1
      exact ⟨by rw [hz]; exact e2, by rw [e3, put_self]; exact h2 d hd, by rw [e3, put_self]; exact h2'⟩
  rcases step_way h with ⟨ρ1, h1, h2, h3⟩ | ⟨ρ1, h1, g, p, tg, x, h2, h3, h4, h5, h6⟩ | ⟨g, p, tg, h2, h3, h4⟩
  · obtain ⟨k1, k2⟩ := h1 r a.tmps A hc hs
    obtain ⟨⟨v, own'⟩, e1, e2⟩ := run_bind h3
    obtain ⟨m1, m2, m3⟩ := lay_env e2
    have hw : Region.wanted o (yielded ops a.tmps) = true := by
      rcases h2 with hg | ⟨g, p, tg, q1, q2, q3⟩
      · simp [Region.wanted, hg]
      · have := q3 r a.tmps A hc (hgt q1 q2) hs
        simp only [Region.wanted, q1]
        rw [yielded_eq q2, this]; simp
    dsimp only at m1
    have hy := doOpQ_sound (P := P) (F := F) (D := D) (o := o) (own := st.own) (own' := own') (v := v) (a := a) (as := none) hF (ρ := ρ1.only A) (by rw [doOp_only k2 none hop]; exact e1) hR (by rw [← m1]; exact ha) (by rw [← m1]; exact hn) k1.only (fun _ _ e => by cases e)
    intro K Q hK
    rw [if_pos hw]
    refine hy K Q ?_
    rintro u w' ⟨r', q1, q2, q3⟩
    refine hK _ _ ⟨r', u, q1, by rw [m1]; exact q2, rfl, fun d hd => ?_⟩
    rcases m3 with ⟨e, _⟩ | ⟨t, f1, f2, f3⟩
    · rw [hd] at e; cases e
    · rw [hd] at f1; cases f1
      exact ⟨by rw [hz]; exact f2, by rw [f3, put_self]; exact .of q3, by rw [f3, put_self]; intro t p v e; subst e; simp only [VRel] at q3⟩
  · have htm := h4 r a.tmps A hc (hgt h2 h3) hs
    refine hskip rfl h6 (fun d hd => .of (by simp [VRel])) (fun _ _ _ e => by cases e) ?_
    simp only [Region.wanted, h2]
    rw [yielded_eq h3, htm]
    cases x with
    | none => rfl
    | some b => simp at h5 ⊢; exact h5
  · obtain ⟨⟨v, own'⟩, e1, e2⟩ := run_bind h4
    split at e2
    · rename_i hcnd
      dsimp only at hcnd e2
      have hsame' : own' = st.own := by
        obtain ⟨blks, rfl⟩ := doOp_own hF e1
        have h0 := hcnd.1
        rw [List.length_append] at h0
        rw [List.eq_nil_of_length_eq_zero (by omega : blks.length = 0), List.append_nil]
      subst hsame'
      by_cases hb : a.tmps.getD tg Go.undef = .bool p
      · have hw : Region.wanted o (yielded ops a.tmps) = true := by
          simp only [Region.wanted, h2]
          rw [yielded_eq h3, hb]; simp
        obtain ⟨m1, m2, m3⟩ := lay_env e2
        have hy := doOpQ_sound (P := P) (F := F) (D := D) (o := o) (own := st.own) (own' := st.own) (v := v) (a := a) (as := some (tg, p)) hF (ρ := st.ρ.only A) (by rw [doOp_only hc _ hop]; exact e1) hR (by rw [← m1]; exact ha) (by rw [m1] at hn; exact hn) hs.only (fun t q e => by cases e; exact hb)
        intro K Q hK
        rw [if_pos hw]
        refine hy K Q ?_
        rintro u w' ⟨r', q1, q2, q3⟩
        refine hK _ _ ⟨r', u, q1, by rw [m1]; exact q2, rfl, fun d hd => ?_⟩
        rcases m3 with ⟨e, _⟩ | ⟨t, f1, f2, f3⟩
        · rw [hd] at e; cases e
        · rw [hd] at f1; cases f1
          refine ⟨by rw [hz]; exact f2, ?_, by rw [f3, put_self]; intro t q v e; cases e; exact hin h2 h3⟩
          rw [f3, put_self]
          exact .inl ⟨by rw [getD_set_other (fun e => hcnd.2 (by rw [hd, e]))]; exact hb, q3⟩
      · refine hskip (ρ1 := st.ρ) rfl e2 (fun d hd => .inr ⟨by rw [getD_set_other (fun e => hcnd.2 (by rw [hd, e]))]; exact hb, rfl⟩) (fun t q v e => by cases e; exact hin h2 h3) ?_
        simp only [Region.wanted, h2]
        rw [yielded_eq h3]
        split
        · rename_i b e; rw [e] at hb; simp at hb ⊢; exact hb
        · rfl
    · exact (run_fail e2).elim

end
end Go.Proofs.Pen

namespace Go.Proofs.Pen
open Go RowKit

section
variable {ops : Array Oper}

def Down (ops : Array Oper) (L : Nat → Prop) : Prop := ∀ k o, L k → ops[k]? = some o → ∀ e ∈ o.after.toList, Region.binds .any e = true → L e.on

theorem mem_zipIdx {α : Type} {l : List α} {i : Nat} {x : α} (h : l[i]? = some x) : (x, i) ∈ l.zipIdx := by
  rw [List.mem_zipIdx_iff_getElem?]; exact h

theorem okAt_of {m : Nat} (h : orderly ops m = true) {k : Nat} {o : Oper} (hk : ops[k]? = some o) : okAt ops ((dsts ops).take m) m k o = true :=
  List.all_eq_true.1 h (o, k) (mem_zipIdx (by rw [Array.getElem?_toList]; exact hk))

theorem ok_back {m : Nat} (h : orderly ops m = true) {k : Nat} {o : Oper} (hk : ops[k]? = some o) : ∀ e ∈ o.after.toList, Region.binds .any e = true → e.on < k := by
  have := okAt_of h hk
  simp only [okAt, Bool.and_eq_true] at this
  intro e he hb
  have := List.all_eq_true.1 this.1 e he
  rw [hb] at this
  simpa [Nat.blt_eq] using this

theorem ok_front {m : Nat} (h : orderly ops m = true) {k : Nat} {o : Oper} (hk : ops[k]? = some o) (hm : k < m) :
    ((o.looksAt ops).all fun t => ((dsts ops).take m).zipIdx.all fun d => d.1 != some t || bindsOn o d.2) = true ∧ (o.dst == none || (((dsts ops).take m).take k).all fun d => d != o.dst) = true := by
  have := okAt_of h hk
  simp only [okAt, Bool.and_eq_true, Bool.or_eq_true] at this
  rcases this.2 with h1 | h1
  · have := Nat.le_of_ble_eq_true h1; omega
  · simpa only [Bool.or_eq_true] using h1

theorem ok_reads {m : Nat} (h : orderly ops m = true) {k : Nat} {o : Oper} (hk : ops[k]? = some o) (hkm : k < m) {t j : Nat} (ht : t ∈ o.looksAt ops) {o' : Oper} (hjm : j < m) (hj : ops[j]? = some o') (hd : o'.dst = some t) : ∃ e ∈ o.after.toList, Region.binds .any e = true ∧ e.on = j := by
  have h1 := List.all_eq_true.1 (ok_front h hk hkm).1 t ht
  have h2 := List.all_eq_true.1 h1 (some t, j) (mem_zipIdx (by
    rw [List.getElem?_take_of_lt hjm]
    unfold dsts
    rw [List.getElem?_map, Array.getElem?_toList, hj]; simp [hd]))
  simp only [bne_self_eq_false, Bool.false_or, bindsOn] at h2
  obtain ⟨e, h3, h4⟩ := List.any_eq_true.1 h2
  simp only [Bool.and_eq_true] at h4
  exact ⟨e, h3, h4.1, Nat.eq_of_beq_eq_true h4.2⟩

theorem ok_once {m : Nat} (h : orderly ops m = true) {k j : Nat} {o o' : Oper} (hkm : k < m) (hjm : j < m) (hk : ops[k]? = some o) (hj : ops[j]? = some o') {t : Nat} (h1 : o.dst = some t) (h2 : o'.dst = some t) : k = j := by
  have key : ∀ {k j : Nat} {o o' : Oper}, k < m → ops[k]? = some o → ops[j]? = some o' → o.dst = some t → o'.dst = some t → ¬ j < k := by
    intro k j o o' hkm hk hj h1 h2 hlt
    have h3 := (ok_front h hk hkm).2
    rw [h1] at h3
    simp only [Option.some_beq_none, Bool.false_or] at h3
    have h4 := List.all_eq_true.1 h3 (some t) (by
      refine List.mem_of_getElem? (i := j) ?_
      rw [List.getElem?_take_of_lt hlt, List.getElem?_take_of_lt (by omega)]
      unfold dsts
      rw [List.getElem?_map, Array.getElem?_toList, hj]; simp [h2])
    simp at h4
  have a1 := key hkm hk hj h1 h2
  have a2 := key hjm hj hk h2 h1
  omega

theorem mask_sub {L : Nat → Prop} {acc : List Nat} (hacc : ∀ j i, L j → Nat.testBit (acc.getD j 0) i = true → L i) : ∀ (l : List Edge), (∀ e ∈ l, Region.binds .any e = true → L e.on) →
    ∀ i, Nat.testBit (l.foldr (fun e s => if Region.binds .any e then s ||| (1 <<< e.on ||| acc.getD e.on 0) else s) 0) i = true → L i
  | [], _, i, h => by simp at h
  | e :: l, hl, i, h => by
    rw [List.foldr_cons] at h
    have ih := mask_sub hacc l (fun e he => hl e (by simp [he])) i
    split at h
    · rename_i hb
      rw [Nat.testBit_or, Nat.testBit_or] at h
      simp only [Bool.or_eq_true] at h
      rcases h with h | h | h
      · exact ih h
      · rw [Nat.one_shiftLeft, Nat.testBit_two_pow] at h
        have : e.on = i := by simpa using h
        subst this; exact hl e (by simp) hb
      · exact hacc _ _ (hl e (by simp) hb) h
    · exact ih h

theorem masks_spec {L : Nat → Prop} (hd : Down ops L) : ∀ (l : List Oper) (acc : List Nat), (∀ i o, l[i]? = some o → ops[acc.length + i]? = some o) → (∀ j i, L j → Nat.testBit (acc.getD j 0) i = true → L i) →
    (∀ k o, acc.length ≤ k → k < acc.length + l.length → ops[k]? = some o → (∀ e ∈ o.after.toList, Region.binds .any e = true → L e.on) → ∀ i, Nat.testBit ((masks l acc).getD k 0) i = true → L i) ∧ (masks l acc).length = acc.length + l.length ∧ ∀ k, k < acc.length → (masks l acc).getD k 0 = acc.getD k 0
  | [], acc, _, h => ⟨fun k o h1 h2 => by simp at h2; omega, by simp [masks], fun k _ => rfl⟩
  | o :: l, acc, hi, h => by
    have hko : ops[acc.length]? = some o := by have := hi 0 o rfl; simpa using this
    have hlast : ∀ j, (acc ++ [maskOf acc o]).getD j 0 = if j = acc.length then maskOf acc o else acc.getD j 0 := by
      intro j
      by_cases h1 : j < acc.length
      · rw [List.getD_eq_getElem?_getD, List.getElem?_append_left h1, if_neg (by omega), List.getD_eq_getElem?_getD]
      · by_cases h2 : j = acc.length
        · subst h2; rw [if_pos rfl]; simp
        · rw [if_neg h2, List.getD_eq_getElem?_getD, List.getElem?_eq_none (by simp; omega), List.getD_eq_getElem?_getD, List.getElem?_eq_none (by omega)]
    have hacc' : ∀ j i, L j → Nat.testBit ((acc ++ [maskOf acc o]).getD j 0) i = true → L i := by
      intro j i hj hb
      rw [hlast] at hb
      split at hb
      · rename_i e; subst e
        exact mask_sub h _ (hd _ o hj hko) i hb
      · exact h j i hj hb
    obtain ⟨k1, k2, k3⟩ := masks_spec hd l (acc ++ [maskOf acc o]) (fun i o' hi' => by
      have := hi (i + 1) o' (by simpa using hi')
      rw [List.length_append]; simp only [List.length_cons, List.length_nil]
      rw [show acc.length + (0 + 1) + i = acc.length + (i + 1) by omega]; exact this) hacc'
    simp only [List.length_append, List.length_cons, List.length_nil] at k1 k2 k3
    refine ⟨fun k o' h1 h2 hk ha i hb => ?_, by simp only [masks]; rw [k2]; simp only [List.length_cons]; omega, fun k hk => ?_⟩
    · by_cases e : k = acc.length
      · subst e
        rw [hko] at hk; cases hk
        simp only [masks] at hb
        rw [k3 _ (by omega), hlast, if_pos rfl] at hb
        exact mask_sub h _ ha i hb
      · exact k1 k o' (by omega) (by simp only [List.length_cons] at h2; omega) hk ha i hb
    · simp only [masks]
      rw [k3 k (by omega), hlast, if_neg (by omega)]

theorem forced {m : Nat} (h : forcedFrom ops m = true) {L : Nat → Prop} (hd : Down ops L) {k : Nat} {o : Oper} (hk : ops[k]? = some o) (hm : m ≤ k) (ha : ∀ e ∈ o.after.toList, Region.binds .any e = true → L e.on) : ∀ i, i < k → L i := by
  obtain ⟨k1, k2, _⟩ := masks_spec hd ops.toList [] (fun i o hi => by rw [Array.getElem?_toList] at hi; simpa using hi) (fun j i _ hb => by simp at hb)
  have hkn : k < ops.size := (Array.getElem?_eq_some_iff.1 hk).1
  simp only [List.length_nil, Array.length_toList, Nat.zero_add] at k1 k2
  simp only [forcedFrom, Bool.and_eq_true] at h
  intro i hi
  have h1 : (masks ops.toList [])[k]? = some ((masks ops.toList []).getD k 0) := by
    rw [List.getD_eq_getElem?_getD, List.getElem?_eq_getElem (by rw [k2]; exact hkn)]; rfl
  have h2 := List.all_eq_true.1 h.2 _ (mem_zipIdx h1)
  simp only [Bool.or_eq_true] at h2
  rcases h2 with h2 | h2
  · rw [Nat.blt_eq] at h2; omega
  · have h3 := Nat.eq_of_beq_eq_true h2
    refine k1 k o (Nat.zero_le _) hkn hk ha i ?_
    rw [h3, Nat.testBit_two_pow_sub_one]; simpa using hi

end
end Go.Proofs.Pen

namespace Go.Proofs.Pen
open Go RowKit

def AL (ops : Array Oper) (m : Nat) (L : Nat → Prop) (i : Nat) (s : Nat) : Prop := ∀ k o, k < m → ops[k]? = some o → o.dst = some s → L k ∧ k < i

def SL (sts : Nat → St) (m : Nat) (L : Nat → Prop) (id : Nat) : Prop := id < (sts 0).own.length ∨ ∃ k, L k ∧ k < m ∧ (sts k).own.length ≤ id ∧ id < (sts (k + 1)).own.length

theorem AL.mono {ops : Array Oper} {m : Nat} {L L' : Nat → Prop} {i i' s : Nat} (h : AL ops m L i s) (hL : ∀ k, L k → L' k) (hi : i ≤ i') : AL ops m L' i' s := fun k o h1 h2 h3 => by
  obtain ⟨k1, k2⟩ := h k o h1 h2 h3
  exact ⟨hL k k1, by omega⟩

theorem slot_put {r r' : Res} {tm : Array Value} {d : Nat} {u : Value} {v : AV} {x : Value} (hr : r.le r') (h : SlotRel r tm v x) (hw : ∀ t p y, v = .when t p y → t ≠ d) : SlotRel r' (tm.setIfInBounds d u) v x := by
  have := h.mono hr
  cases v with
  | when t p y =>
    simp only [SlotRel, getD_set_other (hw t p y rfl)] at this ⊢
    exact this
  | _ => exact this

theorem act_put {a : Act} {d : Option Nat} {u : Value} : (a.put d u).tmps = match d with | none => a.tmps | some d => a.tmps.setIfInBounds d u := by cases d <;> rfl

theorem SOn.put {A : Nat → Prop} {r r' : Res} {ρ : Env} {a : Act} {d : Option Nat} {u : Value} (hr : r.le r') (h : SOn A r ρ a.tmps) (hc : Closed ρ A) (hd : ∀ t, d = some t → ¬ A t) : SOn A r' ρ (a.put d u).tmps := by
  intro s hA
  rw [act_put]
  cases d with
  | none => exact (h s hA).mono hr
  | some t =>
    dsimp only
    rw [getD_set_other (fun e => by subst e; exact hd _ rfl hA)]
    exact slot_put hr (h s hA) fun t' p y e e' => by subst e'; exact hd _ rfl (hc s _ p y hA e)

end Go.Proofs.Pen

namespace Go.Proofs.Pen
open Go RowKit

def unl (n : Nat) (listed : Array Bool) : Nat := (List.range n).countP fun i => !listed.getD i false

theorem countP_less {α : Type} {p q : α → Bool} : ∀ {l : List α}, (∀ x ∈ l, p x = true → q x = true) → (∃ x ∈ l, q x = true ∧ p x = false) → l.countP p < l.countP q
  | [], _, h => by obtain ⟨x, h, _⟩ := h; simp at h
  | y :: l, h1, h2 => by
    have hle : l.countP p ≤ l.countP q := List.countP_mono_left fun x hx => h1 x (by simp [hx])
    rw [List.countP_cons, List.countP_cons]
    obtain ⟨x, hx, k1, k2⟩ := h2
    simp at hx
    rcases hx with rfl | hx
    · rw [k1, k2]; simp; omega
    · have := countP_less (p := p) (q := q) (fun z hz => h1 z (by simp [hz])) ⟨x, hx, k1, k2⟩
      have h3 := h1 y (by simp)
      cases hp : p y with
      | true => rw [h3 hp]; simp; omega
      | false => cases q y <;> simp <;> omega

section
variable {P : Program} {F : Fns} {D : Nat → Bool} {ops : Array Oper} {sts : Nat → St} {m : Nat} {w0 : Base P} {M : Nat → Prop} {r r0 : Res} {a : Act} {w : World} {Q : Exit → Act → World → Prop}

def On (listed : Array Bool) (i : Nat) : Prop := listed.getD i false = true

theorem on_set {listed : Array Bool} {i : Nat} (hi : i < listed.size) (k : Nat) : On (listed.setIfInBounds i true) k ↔ (k = i ∨ On listed k) := by
  unfold On
  simp only [Array.getD_eq_getD_getElem?, Array.getElem?_setIfInBounds]
  by_cases h : i = k
  · subst h; simp [hi]
  · rw [if_neg h]
    constructor
    · exact .inr
    · rintro (e | e); exact absurd e.symm h; exact e

theorem unl_set {listed : Array Bool} {i n : Nat} (hs : listed.size = n) (hi : i < n) (h : ¬ On listed i) : unl n (listed.setIfInBounds i true) < unl n listed := by
  refine countP_less (fun x _ hx => ?_) ⟨i, by simpa using hi, by simpa [On] using h, ?_⟩
  · have hx' : ¬ On (listed.setIfInBounds i true) x := by simpa [On] using hx
    rw [on_set (by omega)] at hx'
    have : ¬ On listed x := fun e => hx' (.inr e)
    simpa [On] using this
  · have : On (listed.setIfInBounds i true) i := (on_set (by omega) i).2 (.inl rfl)
    unfold On at this; rw [this]; rfl

theorem unl_zero {listed : Array Bool} {n : Nat} (h : unl n listed = 0) : ∀ i, i < n → On listed i := fun i hi => by
  unfold unl at h
  rw [List.countP_eq_zero] at h
  have := h i (by simpa using hi)
  simpa [On] using this

theorem mem_ready {listed : Array Bool} {i : Nat} (hs : listed.size = ops.size) : i ∈ Region.ready .any ops listed ↔ ∃ o, ops[i]? = some o ∧ ¬ On listed i ∧ ∀ e ∈ o.after.toList, Region.binds .any e = true → On listed e.on := by
  unfold Region.ready
  rw [List.mem_filter, List.mem_range]
  constructor
  · rintro ⟨h1, h2⟩
    simp only [Bool.and_eq_true] at h2
    have ho := Array.getElem?_eq_getElem h1
    refine ⟨_, ho, ?_, ?_⟩
    · have := h2.1
      have hi : i < listed.size := by omega
      simp [Array.getD, hi, On] at this ⊢
      exact this
    · have := h2.2
      rw [ho] at this
      simp only [Option.map_some, Option.getD_some] at this
      rw [← Array.all_toList] at this
      intro e he hb
      have := List.all_eq_true.1 this e he
      rw [hb] at this
      simpa [On] using this
  · rintro ⟨o, ho, h1, h2⟩
    have hi : i < ops.size := (Array.getElem?_eq_some_iff.1 ho).1
    refine ⟨hi, ?_⟩
    simp only [Bool.and_eq_true]
    constructor
    · have hi : i < listed.size := by omega
      simp [Array.getD, hi, On] at h1 ⊢
      exact h1
    · rw [ho]
      simp only [Option.map_some, Option.getD_some]
      rw [← Array.all_toList]
      refine List.all_eq_true.2 fun e he => ?_
      cases hb : Region.binds .any e with
      | false => rfl
      | true => have := h2 e he hb; unfold On at this; rw [this]; rfl

theorem ready_least {m0 : Nat} (ho : orderly ops m0 = true) {listed : Array Bool} (hs : listed.size = ops.size) {i : Nat} (hi : i < ops.size) (h : ¬ On listed i) : ∃ j, j ≤ i ∧ j ∈ Region.ready .any ops listed := by
  have key : ∀ n, ∀ i, i < n → i < ops.size → ¬ On listed i → ∃ j, j ≤ i ∧ j ∈ Region.ready .any ops listed := by
    intro n
    induction n with
    | zero => intro i h; omega
    | succ n ih =>
      intro i hn hi h
      have hoi := Array.getElem?_eq_getElem hi
      by_cases hall : ∀ e ∈ (ops[i]'hi).after.toList, Region.binds .any e = true → On listed e.on
      · exact ⟨i, Nat.le_refl _, (mem_ready hs).2 ⟨_, hoi, h, hall⟩⟩
      · simp only [Classical.not_forall] at hall
        obtain ⟨e, he, hb, hne⟩ := hall
        have hlt := ok_back ho hoi e he hb
        obtain ⟨j, h1, h2⟩ := ih e.on (by omega) (by omega) hne
        exact ⟨j, by omega, h2⟩
  exact key (i + 1) i (by omega) hi h

theorem wpOp_of {i : Nat} {o : Oper} {K R : Act → World → Prop} (hi : ops[i]? = some o) (h : Steps1 P ops o a w R) (hK : ∀ a' w', R a' w' → K a' w') : wpOp P ops Q i K a w := by
  have := h K Q hK
  unfold wpOp
  rw [hi]
  dsimp only
  split
  · rename_i hw; rw [if_pos hw] at this; exact .inl this
  · rename_i hw; rw [if_neg hw] at this; exact this

theorem draw_late (hF : QuietOK P F.quiet) (hD : DeepOK P F.deep) {m0 : Nat} (ho : orderly ops m0 = true) (hf : forcedFrom ops m = true) (hst : ∀ k o, m ≤ k → ops[k]? = some o → (stepOp P F D ops true (sts k) o).run = some (sts (k + 1)))
    (hQ : ∀ a' w', (∃ r', r0.le r' ∧ StRel w0 M (sts ops.size) r' a' w') → Q .normal a' w') : ∀ (fuel k : Nat) (listed : Array Bool) (r : Res) (a : Act) (w : World), m ≤ k → k ≤ ops.size → listed.size = ops.size → (∀ i, On listed i ↔ i < k) → Down ops (On listed) → unl ops.size listed ≤ fuel →
      r0.le r → StRel w0 M (sts k) r a w → wpAny P .any ops Q fuel listed a w := by
  intro fuel
  induction fuel with
  | zero =>
    intro k listed r a w h1 h2 h3 h4 hdn h5 h6 h7
    have hall := unl_zero (Nat.le_zero.1 h5)
    have hk : k = ops.size := by
      apply Classical.byContradiction; intro hne
      have := (h4 k).1 (hall k (by omega)); omega
    subst hk
    refine ⟨?_, hQ a w ⟨r, h6, h7⟩⟩
    apply List.eq_nil_iff_forall_not_mem.2
    intro i hi
    obtain ⟨o, q1, q2, _⟩ := (mem_ready h3).1 hi
    exact q2 (hall i (Array.getElem?_eq_some_iff.1 q1).1)
  | succ fuel ih =>
    intro k listed r a w h1 h2 h3 h4 hdn h5 h6 h7
    constructor
    · intro hnil
      have hk : k = ops.size := by
        apply Classical.byContradiction; intro hne
        obtain ⟨j, _, hj⟩ := ready_least ho h3 (i := k) (by omega) (fun e => by have := (h4 k).1 e; omega)
        rw [hnil] at hj; simp at hj
      subst hk
      exact hQ a w ⟨r, h6, h7⟩
    · intro i hi
      obtain ⟨o, q1, q2, q3⟩ := (mem_ready h3).1 hi
      have hisz : i < ops.size := (Array.getElem?_eq_some_iff.1 q1).1
      have hki : k ≤ i := by
        rcases Nat.lt_or_ge i k with h | h
        · exact absurd ((h4 i).2 h) q2
        · exact h
      have hik : i = k := by
        apply Classical.byContradiction; intro hne
        have := forced hf hdn q1 (by omega) q3 k (by omega)
        have := (h4 k).1 this; omega
      subst hik
      refine wpOp_of q1 (stepOp_sound hF hD (hst i o h1 q1) h7) ?_
      rintro a' w' ⟨r', k1, k2⟩
      have hon := on_set (listed := listed) (i := i) (by omega)
      refine ih (i + 1) _ r' a' w' (by omega) (by omega) (by simpa using h3) (fun j => ?_) ?_ ?_ (h6.trans k1) k2
      · rw [hon, h4]; omega
      · intro j o' hj hjo e he hb
        rw [hon] at hj ⊢
        rcases hj with rfl | hj
        · rw [q1] at hjo; cases hjo
          exact .inr (q3 e he hb)
        · exact .inr (hdn j o' hj hjo e he hb)
      · have := unl_set h3 hisz q2; omega

theorem walk_states {loud : Nat → Bool} : ∀ (l : List Oper) (k : Nat) (st st' : St), (runOps P F D ops loud l k st).run = some st' →
    ∃ sts : Nat → St, sts k = st ∧ sts (k + l.length) = st' ∧ ∀ i o, l[i]? = some o → (stepOp P F D ops (loud (k + i)) (sts (k + i)) o).run = some (sts (k + i + 1))
  | [], k, st, st', h => by
    have := run_ret h; subst this
    exact ⟨fun _ => st, rfl, rfl, fun i o h => by simp at h⟩
  | o :: l, k, st, st', h => by
    obtain ⟨st1, h1, h2⟩ := run_bind h
    obtain ⟨sts, k1, k2, k3⟩ := walk_states l (k + 1) st1 st' h2
    refine ⟨fun i => if i = k then st else sts i, if_pos rfl, ?_, fun i o' hi => ?_⟩
    · dsimp only
      rw [if_neg (by simp only [List.length_cons]; omega)]
      rw [← k2]; congr 1; simp only [List.length_cons]; omega
    · cases i with
      | zero =>
        simp at hi; subst hi
        dsimp only
        simp only [Nat.add_zero, if_pos]
        rw [if_neg (by omega), k1]; exact h1
      | succ i =>
        have := k3 i o' (by simpa using hi)
        dsimp only
        rw [if_neg (by omega), if_neg (by omega)]
        rw [show k + (i + 1) = k + 1 + i by omega]; exact this


end
end Go.Proofs.Pen

namespace Go.Proofs.Pen
open Go RowKit

section
variable {P : Program} {w0 : Base P} {w : World} {M S : Nat → Prop} {own : List Blk} {r : Res}

def baseAt (P : Program) (Z : Nat → Prop) (w : World) (r : Res) : Base P := { w with H0 := r.H, Z := Z }
def liveAt (S : Nat → Prop) (own : List Blk) (r : Res) (b : Nat) : Prop := ∃ i k C, S i ∧ own[i]? = some k ∧ isLive k = true ∧ r.ι i = some (b, C)

theorem Rel.part (h : Rel w0 M S own r w) (U : List Nat) : Rel (baseAt P w0.Z w r) (liveAt S (aside U own) r) S (aside U own) r w where
  os := rfl
  tape := rfl
  output := .refl _
  size := Nat.le_refl _
  base _ _ _ := rfl
  pers := h.pers
  blk id k hs hk hl := by
    obtain ⟨h1, _⟩ := aside_live hk hl
    rcases h.blk id k hs h1 hl with ⟨b, C, e1, e2, _, e4⟩ | h'
    · exact .inl ⟨b, C, e1, e2, .inl ⟨id, k, C, hs, hk, hl, e1⟩, e4⟩
    · exact .inr h'
  inj i j k l b C C' hi hj hk hl lk ll e1 e2 := h.inj i j k l b C C' hi hj (aside_live hk lk).1 (aside_live hl ll).1 lk ll e1 e2
  dom := h.dom
  up a v e := .inl e
  zero := h.zero
  glob := h.glob

theorem Rel.back (h : Rel w0 M S own r w) {U : List Nat} {S' : Nat → Prop} {r' : Res} {w' : World} (_hS : ∀ i, S i → S' i) (hU : ∀ i, i ∈ U → S' i → S i) (hrow : ∀ i t, i ∈ U → own[i]? ≠ some (.row t [])) (hle : r.le r') (k : Rel (baseAt P w0.Z w r) (liveAt S (aside U own) r) S' (aside U own) r' w') :
    Rel w0 M S' own r' w' := by
  have hlt : ∀ {i b C kk}, S i → own[i]? = some kk → isLive kk = true → r.ι i = some (b, C) → b < w.heap.size := fun {i b C kk} hi hk hl e => by
    rcases h.blk i kk hi hk hl with ⟨b', C', e1, e2, _⟩ | ⟨e1, _⟩
    · rw [e] at e1; cases e1; exact brel_lt e2 hl
    · rw [e] at e1; cases e1
  have hMM : ∀ {b}, liveAt S (aside U own) r b → M b ∨ w0.heap.size ≤ b := by
    rintro b ⟨i, kk, C, hi, hk, hl, e⟩
    rcases h.blk i kk hi (aside_live hk hl).1 hl with ⟨b', C', e1, _, e3, _⟩ | ⟨e1, _⟩
    · rw [e] at e1; cases e1; exact e3
    · rw [e] at e1; cases e1
  have hsz : w.heap.size ≤ w'.heap.size := k.size
  have hsep : ∀ {i b C kk}, i ∈ U → S i → own[i]? = some kk → isLive kk = true → r.ι i = some (b, C) → ¬ liveAt S (aside U own) r b := by
    rintro i b C kk hi hSi hk hl e ⟨j, kj, Cj, hSj, hkj, hlj, ej⟩
    obtain ⟨q1, q2⟩ := aside_live hkj hlj
    have := h.inj i j kk kj b C Cj hSi hSj hk q1 hl hlj e ej
    subst this; exact q2 hi
  constructor
  · exact k.os.trans h.os
  · exact k.tape.trans h.tape
  · exact k.output.trans h.output
  · exact Nat.le_trans h.size hsz
  · intro b h1 h2
    have := h.size
    rw [k.base b (show b < w.heap.size by omega) (fun hm => by rcases hMM hm with hm | hm; exact h2 hm; omega)]
    exact h.base b h1 h2
  · exact k.pers
  · intro id kk hs hk hl
    by_cases hi : id ∈ U
    · have hSi := hU id hi hs
      rcases h.blk id kk hSi hk hl with ⟨b, C, e1, e2, e3, e4⟩ | ⟨e1, t, e2⟩
      · have hb := hlt hSi hk hl e1
        refine .inl ⟨b, C, hle.ι _ _ e1, (e2.heap (k.base b hb (hsep hi hSi hk hl e1))).mono hle, e3, fun a v e => ?_⟩
        rcases k.up a v e with e | e | e
        · exact e4 a v e
        · intro hab
          have : w.heap.size ≤ a.block := e
          omega
        · exact fun hab => hsep hi hSi hk hl e1 (hab ▸ e)
      · subst e2; exact absurd hk (hrow id t hi)
    · rcases k.blk id kk hs (by rw [aside_out hi]; exact hk) hl with ⟨b, C, e1, e2, e3, e4⟩ | h'
      · refine .inl ⟨b, C, e1, e2, ?_, e4⟩
        rcases e3 with e3 | e3
        · exact hMM e3
        · have : w.heap.size ≤ b := e3
          have := h.size
          exact .inr (by omega)
      · exact .inr h'
  · intro i j ki kj b C C' hi hj hki hkj hli hlj e1 e2
    have key : ∀ {i j ki kj b C C'}, i ∈ U → S' i → S' j → own[i]? = some ki → own[j]? = some kj → isLive ki = true → isLive kj = true → r'.ι i = some (b, C) → r'.ι j = some (b, C') → i = j := by
      intro i j ki kj b C C' hiU hi hj hki hkj hli hlj e1 e2
      have hSi := hU i hiU hi
      rcases h.blk i ki hSi hki hli with ⟨b1, C1, m1, m2, _⟩ | ⟨_, t, m1⟩
      · have m1' := hle.ι _ _ m1
        rw [e1] at m1'; cases m1'
        have hb := brel_lt m2 hli
        by_cases hjU : j ∈ U
        · have hSj := hU j hjU hj
          rcases h.blk j kj hSj hkj hlj with ⟨b2, C2, n1, _⟩ | ⟨_, t, n1⟩
          · have n1' := hle.ι _ _ n1
            rw [e2] at n1'; cases n1'
            exact h.inj i j ki kj b C C' hSi hSj hki hkj hli hlj m1 n1
          · subst n1; exact absurd hkj (hrow j t hjU)
        · rcases k.blk j kj hj (by rw [aside_out hjU]; exact hkj) hlj with ⟨b2, C2, n1, _, n3, _⟩ | ⟨n1, _⟩
          · rw [e2] at n1; cases n1
            rcases n3 with n3 | n3
            · exact absurd n3 (hsep hiU hSi hki hli m1)
            · have : w.heap.size ≤ b := n3
              omega
          · rw [e2] at n1; cases n1
      · subst m1; exact absurd hki (hrow i t hiU)
    by_cases hiU : i ∈ U
    · exact key hiU hi hj hki hkj hli hlj e1 e2
    · by_cases hjU : j ∈ U
      · exact (key hjU hj hi hkj hki hlj hli e2 e1).symm
      · exact k.inj i j ki kj b C C' hi hj (by rw [aside_out hiU]; exact hki) (by rw [aside_out hjU]; exact hkj) hli hlj e1 e2
  · exact k.dom
  · intro a v e
    rcases k.up a v e with e | e | e
    · exact h.up a v e
    · have : w.heap.size ≤ a.block := e
      have := h.size
      exact .inr (.inl (by omega))
    · exact .inr (hMM e).symm
  · exact k.zero
  · exact k.glob

end
end Go.Proofs.Pen
