/- A part of the proof that the law HitVisits is true of every input: an evaluator of the program and its proof. -/
import Derived.Scope
import Derived.Test.YtncgifjccpngfaaGreatPenKit0
import Derived.Test.YtncgifjccpngfaaGreatPenKit1
namespace Go.Proofs.Pen
open Go RowKit

theorem lateOf_some {o : Oper} {t : TypeId} {d x : Operand} (h : lateOf o = some (t, d, x)) : o.guard = none ∧ o.dst = none ∧ o.op = .store t d x := by
  unfold lateOf at h
  split at h
  · rename_i h1 h2 h3
    cases h; exact ⟨h1, h2, h3⟩
  · cases h

def FStep (P : Program) (F : Fns) (D : Nat → Bool) (ops : Array Oper) (ms : List Nat) (ls : List (Nat × Nat)) (j : Nat) (o : Oper) (s s' : St) : Prop :=
  (∃ x, lateOf o = some x ∧ s' = s) ∨
  (lateOf o = none ∧ ∃ st', (stepOp P F D ops false { s with own := aside (hidden ms ls j) s.own } o).run = some st' ∧ (∀ i, i ∈ hidden ms ls j → i < s.own.length ∨ st'.own.length ≤ i) ∧ s' = { st' with own := s.own ++ st'.own.drop s.own.length })

open Classical in
noncomputable def mix (ls : List (Nat × Nat)) (own fin : List Blk) (L : Nat → Prop) : List Blk := own.zipIdx.map fun x => if ∃ k, L k ∧ (k, x.2) ∈ ls then fin.getD x.2 .dead else x.1

open Classical in
theorem mix_get (ls : List (Nat × Nat)) (own fin : List Blk) (L : Nat → Prop) (i : Nat) : (mix ls own fin L)[i]? = (own[i]?).map fun k => if ∃ k, L k ∧ (k, i) ∈ ls then fin.getD i .dead else k := by
  unfold mix
  rw [List.getElem?_map, List.getElem?_zipIdx]
  cases own[i]? <;> simp

theorem mix_length (ls : List (Nat × Nat)) (own fin : List Blk) (L : Nat → Prop) : (mix ls own fin L).length = own.length := by simp [mix]

theorem mix_out {ls : List (Nat × Nat)} {own fin : List Blk} {L : Nat → Prop} {i : Nat} (h : ¬ ∃ k, L k ∧ (k, i) ∈ ls) : (mix ls own fin L)[i]? = own[i]? := by
  rw [mix_get]; simp only [h, if_false]; cases own[i]? <;> rfl

theorem mix_iff {ls : List (Nat × Nat)} {own fin : List Blk} {L L' : Nat → Prop} {i : Nat} (e : (∃ k, L k ∧ (k, i) ∈ ls) ↔ ∃ k, L' k ∧ (k, i) ∈ ls) : (mix ls own fin L)[i]? = (mix ls own fin L')[i]? := by
  rw [mix_get, mix_get]
  by_cases h : ∃ k, L' k ∧ (k, i) ∈ ls
  · have h' := e.2 h
    simp only [h, h', if_true]
  · have h' := mt e.1 h
    simp only [h, h', if_false]

structure JL {P : Program} (ops : Array Oper) (sts : Nat → St) (m : Nat) (ls : List (Nat × Nat)) (fin : List Blk) (w0 : Base P) (M : Nat → Prop) (L : Nat → Prop) (r : Res) (a : Act) (w : World) : Prop where
  rel : Rel w0 M (SL sts m L) (mix ls (sts m).own fin L) r w
  size : a.tmps.size = (sts 0).n
  defers : a.defers = []
  slots : ∀ i, i ≤ m → SOn (AL ops m L i) r (sts i).ρ a.tmps
  closed : ∀ i, i ≤ m → Closed (sts i).ρ (AL ops m L i)

def LateIs (P : Program) (ls : List (Nat × Nat)) (ρ : Env) (own fin : List Blk) (k : Nat) (t : TypeId) (d x : Operand) : Prop :=
  ∃ id off cs n, ev ρ none d = .ref id off ∧ (k, id) ∈ ls ∧ szT P t = some n ∧ (ev ρ none x).cells.length = n ∧ (ev ρ none x).known = true ∧ (ev ρ none x).cells.all AV.isCell = true ∧
    own[id]? = some (.cells cs) ∧ off + n ≤ cs.length ∧ fin[id]? = some (.cells (splice cs off (ev ρ none x).cells))

section
variable {P : Program} {F : Fns} {D : Nat → Bool} {ops : Array Oper} {sts : Nat → St} {m : Nat} {ms : List Nat} {ls : List (Nat × Nat)} {fin : List Blk} {w0 : Base P} {M L S : Nat → Prop} {r r0 : Res} {a : Act} {w : World} {own : List Blk} {Q : Exit → Act → World → Prop}

theorem free_states : ∀ (l : List Oper) (k : Nat) (st st' : St), (runFree P F D ops ms ls l k st).run = some st' →
    ∃ sts : Nat → St, sts k = st ∧ sts (k + l.length) = st' ∧ ∀ i o, l[i]? = some o → FStep P F D ops ms ls (k + i) o (sts (k + i)) (sts (k + i + 1))
  | [], k, st, st', h => by
    have := run_ret h; subst this
    exact ⟨fun _ => st, rfl, rfl, fun i o h => by simp at h⟩
  | o :: l, k, st, st', h => by
    have key : ∀ st1, FStep P F D ops ms ls k o st st1 → (runFree P F D ops ms ls l (k + 1) st1).run = some st' → ∃ sts : Nat → St, sts k = st ∧ sts (k + (o :: l).length) = st' ∧ ∀ i o', (o :: l)[i]? = some o' → FStep P F D ops ms ls (k + i) o' (sts (k + i)) (sts (k + i + 1)) := by
      intro st1 h1 h2
      obtain ⟨sts, k1, k2, k3⟩ := free_states l (k + 1) st1 st' h2
      refine ⟨fun i => if i = k then st else sts i, if_pos rfl, ?_, fun i o' hi => ?_⟩
      · dsimp only
        rw [if_neg (by simp only [List.length_cons]; omega)]
        rw [← k2]; congr 1; simp only [List.length_cons]; omega
      · cases i with
        | zero =>
          simp at hi; subst hi
          dsimp only
          simp only [Nat.add_zero, if_pos]
          rw [if_neg (by omega), k1]; exact h1
        | succ i =>
          have := k3 i o' (by simpa using hi)
          dsimp only
          rw [if_neg (by omega), if_neg (by omega)]
          rw [show k + (i + 1) = k + 1 + i by omega]; exact this
    unfold runFree at h
    split at h
    · rename_i x hx
      exact key st (.inl ⟨_, hx, rfl⟩) h
    · rename_i hx
      obtain ⟨st1, h1, h2⟩ := run_bind h
      split at h2
      · rename_i hc
        refine key _ (.inr ⟨hx, st1, h1, fun i hi => ?_, rfl⟩) h2
        have := List.all_eq_true.1 hc i hi
        simp only [Bool.or_eq_true, Nat.blt_eq] at this
        rcases this with this | this
        · exact .inl this
        · exact .inr (Nat.le_of_ble_eq_true this)
      · exact (run_fail h2).elim

theorem fstep_own (hF : QuietOK P F.quiet) {j : Nat} {o : Oper} {s s' : St} (h : FStep P F D ops ms ls j o s s') : (∃ blks, s'.own = s.own ++ blks) ∧ s'.n = s.n := by
  rcases h with ⟨_, _, rfl⟩ | ⟨_, st', h1, _, rfl⟩
  · exact ⟨⟨[], by simp⟩, rfl⟩
  · exact ⟨⟨_, rfl⟩, (step_own hF h1).2⟩

theorem fstep_fwd {j : Nat} {o : Oper} {s s' : St} (h : FStep P F D ops ms ls j o s s') {A : Nat → Prop} {tm : Array Value} (hc : Closed s.ρ A) (hs : SOn A r s.ρ tm) (hd : ∀ d, o.dst = some d → ¬ A d) : SOn A r s'.ρ tm ∧ Closed s'.ρ A := by
  rcases h with ⟨_, _, rfl⟩ | ⟨_, st', h1, _, rfl⟩
  · exact ⟨hs, hc⟩
  · exact step_fwd h1 hc hs hd

theorem own_grow (hF : QuietOK P F.quiet) (hst : ∀ k o, k < m → ops[k]? = some o → FStep P F D ops ms ls k o (sts k) (sts (k + 1))) (hm : m ≤ ops.size) : ∀ (d k : Nat), k + d ≤ m → ∃ blks, (sts (k + d)).own = (sts k).own ++ blks
  | 0, k, _ => ⟨[], by simp⟩
  | d + 1, k, h => by
    obtain ⟨b1, h1⟩ := own_grow hF hst hm d k (by omega)
    have hk : k + d < ops.size := by omega
    obtain ⟨⟨b2, h2⟩, _⟩ := fstep_own hF (hst (k + d) _ (by omega) (Array.getElem?_eq_getElem hk))
    exact ⟨b1 ++ b2, by rw [show k + (d + 1) = k + d + 1 by omega, h2, h1, List.append_assoc]⟩

theorem n_same (hF : QuietOK P F.quiet) (hst : ∀ k o, k < m → ops[k]? = some o → FStep P F D ops ms ls k o (sts k) (sts (k + 1))) (hm : m ≤ ops.size) : ∀ (k : Nat), k ≤ m → (sts k).n = (sts 0).n
  | 0, _ => rfl
  | k + 1, h => by
    have hk : k < ops.size := by omega
    rw [(fstep_own hF (hst k _ (by omega) (Array.getElem?_eq_getElem hk))).2, n_same hF hst hm k (by omega)]

theorem agree_grow (hF : QuietOK P F.quiet) (hst : ∀ k o, k < m → ops[k]? = some o → FStep P F D ops ms ls k o (sts k) (sts (k + 1))) (hm : m ≤ ops.size) {k : Nat} (hk : k ≤ m) : Agree (sts k).own (sts m).own := by
  obtain ⟨b, h⟩ := own_grow hF hst hm (m - k) k (by omega)
  rw [show k + (m - k) = m by omega] at h
  intro i hi
  rw [h, List.getElem?_append_left hi]

theorem len_grow (hF : QuietOK P F.quiet) (hst : ∀ k o, k < m → ops[k]? = some o → FStep P F D ops ms ls k o (sts k) (sts (k + 1))) (hm : m ≤ ops.size) {j k : Nat} (hjk : j ≤ k) (hk : k ≤ m) : (sts j).own.length ≤ (sts k).own.length := by
  obtain ⟨b, h⟩ := own_grow hF hst hm (k - j) j (by omega)
  rw [show j + (k - j) = k by omega] at h
  rw [h, List.length_append]; omega

theorem JL.start (hst : ∀ k o, k < m → ops[k]? = some o → FStep P F D ops ms ls k o (sts k) (sts (k + 1))) (hm : m ≤ ops.size) (hw : ∀ s t p v, (sts 0).ρ s ≠ .when t p v) (ha : Agree (sts 0).own (sts m).own)
    (hR : StRel w0 M (sts 0) r a w) : JL ops sts m ls fin w0 M (fun _ => False) r a w := by
  have key : ∀ i, i ≤ m → SOn (AL ops m (fun _ => False) i) r (sts i).ρ a.tmps ∧ Closed (sts i).ρ (AL ops m (fun _ => False) i) := by
    intro i
    induction i with
    | zero => intro _; exact ⟨fun s _ => hR.fr s, fun s t p v _ e => absurd e (hw s t p v)⟩
    | succ i ih =>
      intro hi
      obtain ⟨k1, k2⟩ := ih (by omega)
      have hk : i < ops.size := by omega
      obtain ⟨q1, q2⟩ := fstep_fwd (hst i _ (by omega) (Array.getElem?_eq_getElem hk)) k2 k1 fun d hd hA => (hA i _ (by omega) (Array.getElem?_eq_getElem hk) hd).1
      have e : AL ops m (fun _ => False) (i + 1) = AL ops m (fun _ => False) i := by
        funext s; exact propext ⟨fun h k o h1 h2 h3 => (h k o h1 h2 h3).1.elim, fun h k o h1 h2 h3 => (h k o h1 h2 h3).1.elim⟩
      rw [e]; exact ⟨q1, q2⟩
  refine ⟨?_, hR.size, hR.defers, fun i hi => (key i hi).1, fun i hi => (key i hi).2⟩
  have hS : ∀ id, Sn (sts 0).own id ↔ SL sts m (fun _ => False) id := fun id => ⟨.inl, fun h => by
    rcases h with h | ⟨k, h, _⟩
    · exact h
    · exact h.elim⟩
  have hmx : mix ls (sts m).own fin (fun _ => False) = (sts m).own := by
    apply List.ext_getElem?
    intro i
    rw [mix_out (by rintro ⟨k, h, _⟩; exact h)]
  rw [hmx]
  have hk : ∀ {i k}, Sn (sts 0).own i → (sts m).own[i]? = some k → (sts 0).own[i]? = some k := fun {i k} hi e => by rw [← ha i hi]; exact e
  have h := hR.rel
  exact (⟨h.os, h.tape, h.output, h.size, h.base, h.pers, fun id k hs e hl => h.blk id k hs (hk hs e) hl,
    fun i j k l b C C' hi hj e1 e2 hl1 hl2 => h.inj i j k l b C C' hi hj (hk hi e1) (hk hj e2) hl1 hl2, h.dom, h.up, h.zero, h.glob⟩ : Rel w0 M (Sn (sts 0).own) (sts m).own r w).congr hS

theorem JL.done (hF : QuietOK P F.quiet) (hst : ∀ k o, k < m → ops[k]? = some o → FStep P F D ops ms ls k o (sts k) (sts (k + 1))) (hm : m ≤ ops.size) (hL : ∀ i, L i ↔ i < m) (hlen : fin.length = (sts m).own.length)
    (hout : ∀ i, (¬ ∃ k, k < m ∧ (k, i) ∈ ls) → fin[i]? = (sts m).own[i]?) (h : JL ops sts m ls fin w0 M L r a w) : StRel w0 M { sts m with own := fin } r a w := by
  have hL' : L = fun i => i < m := funext fun i => propext (hL i)
  have hmx : mix ls (sts m).own fin L = fin := by
    apply List.ext_getElem?
    intro i
    by_cases hi : ∃ k, L k ∧ (k, i) ∈ ls
    · rw [mix_get]
      simp only [hi, if_true]
      rcases Nat.lt_or_ge i (sts m).own.length with h1 | h1
      · rw [List.getElem?_eq_getElem h1, List.getElem?_eq_getElem (by omega)]
        simp [List.getD_eq_getElem?_getD, List.getElem?_eq_getElem (show i < fin.length by omega)]
      · rw [List.getElem?_eq_none h1, List.getElem?_eq_none (by omega)]; rfl
    · rw [mix_out hi, hout i (by rw [hL'] at hi; exact hi)]
  have hr := h.rel
  rw [hmx] at hr
  refine ⟨hr.congr fun id => ⟨fun hs => ?_, fun hs => ?_⟩, fun s => h.slots m (Nat.le_refl _) s fun k o h1 _ _ => ⟨(hL k).2 h1, h1⟩, by rw [h.size]; exact (n_same hF hst hm m (Nat.le_refl _)).symm, h.defers⟩
  · show id < fin.length
    rw [hlen]
    rcases hs with hs | ⟨k, _, h2, _, h4⟩
    · have := len_grow hF hst hm (Nat.zero_le m) (Nat.le_refl _); omega
    · have := len_grow hF hst hm (show k + 1 ≤ m by omega) (Nat.le_refl _); omega
  · have hs : id < fin.length := hs
    rw [hlen] at hs
    have key : ∀ k, k ≤ m → id < (sts k).own.length → SL sts m L id := by
      intro k
      induction k with
      | zero => intro _ h; exact .inl h
      | succ k ih =>
        intro hk h
        by_cases h' : id < (sts k).own.length
        · exact ih (by omega) h'
        · exact .inr ⟨k, (hL k).2 (by omega), by omega, by omega, h⟩
    exact key m (Nat.le_refl _) hs

theorem JL.step (hF : QuietOK P F.quiet) (ho : orderly ops m = true) (hms : ms = masks ops.toList []) (hst : ∀ k o, k < m → ops[k]? = some o → FStep P F D ops ms ls k o (sts k) (sts (k + 1))) (hm : m ≤ ops.size)
    (hls : ∀ k i, (k, i) ∈ ls → k < m ∧ (∃ o, ops[k]? = some o ∧ (lateOf o).isSome = true) ∧ ∃ cs cs', (sts m).own[i]? = some (.cells cs) ∧ fin[i]? = some (.cells cs')) (hdn : Down ops L) (hLm : ∀ k, L k → k < m) (h : JL ops sts m ls fin w0 M L r a w)
    {j : Nat} {o : Oper} (hj : ops[j]? = some o) (hjm : j < m) (hLj : ¬ L j) (hLa : ∀ e ∈ o.after.toList, Region.binds .any e = true → L e.on) (hnl : lateOf o = none) :
    Steps1 P ops o a w fun a' w' => ∃ r', r.le r' ∧ JL ops sts m ls fin w0 M (fun i => i = j ∨ L i) r' a' w' := by
  have hlen := @len_grow P F D ops sts m ms ls hF hst hm
  have hAj : ∀ t, t ∈ o.looksAt ops → AL ops m L j t := fun t ht k o' h1 h2 h3 => by
    obtain ⟨e, k1, k2, k3⟩ := ok_reads ho hj hjm ht h1 h2 h3
    subst k3
    exact ⟨hLa e k1 k2, ok_back ho hj e k1 k2⟩
  obtain ⟨st', hs1, hs2, hs3⟩ : ∃ st', (stepOp P F D ops false { sts j with own := aside (hidden ms ls j) (sts j).own } o).run = some st' ∧ (∀ i, i ∈ hidden ms ls j → i < (sts j).own.length ∨ st'.own.length ≤ i) ∧ sts (j + 1) = { st' with own := (sts j).own ++ st'.own.drop (sts j).own.length } := by
    rcases hst j o hjm hj with ⟨x, h1, _⟩ | ⟨_, h1⟩
    · rw [hnl] at h1; cases h1
    · exact h1
  obtain ⟨⟨blks, hown⟩, hn'⟩ := step_own hF hs1
  dsimp only at hown hn'
  have hl' : st'.own.length = (sts (j + 1)).own.length := by
    rw [hs3, hown]; simp [aside_length]
  have hl0 : (aside (hidden ms ls j) (sts j).own).length = (sts j).own.length := aside_length _ _
  have hlj := hlen (show j ≤ j + 1 by omega) (by omega)
  -- a store that has run is not put aside, unless ..
  have hmask : ∀ k i, L k → (k, i) ∈ ls → i ∈ hidden ms ls j := by
    intro k i hk hi
    unfold hidden
    rw [List.mem_filterMap]
    refine ⟨(k, i), hi, ?_⟩
    have : Nat.testBit (ms.getD k 0) j = false := by
      apply Bool.eq_false_iff.2
      intro hb
      rw [hms] at hb
      have hk' := hLm k hk
      obtain ⟨k1, _, _⟩ := masks_spec hdn ops.toList [] (fun i o hi => by rw [Array.getElem?_toList] at hi; simpa using hi) (fun j i _ hb => by simp at hb)
      have := k1 k _ (Nat.zero_le _) (by simp only [List.length_nil, Array.length_toList, Nat.zero_add]; omega) (Array.getElem?_eq_getElem (by omega)) (hdn k _ hk (Array.getElem?_eq_getElem (by omega))) j hb
      exact hLj this
    dsimp only
    rw [this]; rfl
  have hag : Agree st'.own (aside (hidden ms ls j) (mix ls (sts m).own fin L)) := by
    intro i hi
    rw [aside_get]
    by_cases hU : i ∈ hidden ms ls j
    · have hi2 : i < (sts j).own.length := by
        rcases hs2 i hU with h1 | h1
        · exact h1
        · omega
      rw [hown, List.getElem?_append_left (by rw [hl0]; exact hi2), aside_get]
      have e1 : (sts j).own[i]? = some ((sts j).own[i]'hi2) := List.getElem?_eq_getElem hi2
      have hi3 : i < (mix ls (sts m).own fin L).length := by rw [mix_length]; have := hlen (show j ≤ m by omega) (Nat.le_refl _); omega
      rw [e1, List.getElem?_eq_getElem hi3]
      simp [hU]
    · have hno : ¬ ∃ k, L k ∧ (k, i) ∈ ls := fun ⟨k, h1, h2⟩ => hU (hmask k i h1 h2)
      rw [mix_out hno]
      have hi2 : i < (sts (j + 1)).own.length := by omega
      rw [agree_grow hF hst hm (k := j + 1) (by omega) i hi2, hs3]
      dsimp only
      rw [hown]
      rcases Nat.lt_or_ge i (sts j).own.length with h1 | h1
      · rw [List.getElem?_append_left h1, List.getElem?_append_left (by rw [hl0]; exact h1), aside_get]
      · rw [List.getElem?_append_right h1, List.getElem?_append_right (by rw [hl0]; exact h1), List.getElem?_drop, hl0, List.getElem?_append_right (by rw [hl0]; omega), hl0]
        rw [show (sts j).own.length + (i - (sts j).own.length) - (sts j).own.length = i - (sts j).own.length by omega]
        cases blks[i - (sts j).own.length]? <;> simp [hU]
  have hnew : ∀ i, (sts j).own.length ≤ i → i < (sts (j + 1)).own.length → ¬ SL sts m L i := by
    rintro i h1 h2 (h3 | ⟨k, h3, h4, h5, h6⟩)
    · have := hlen (Nat.zero_le j) (by omega); omega
    · have hkj : k ≠ j := fun e => hLj (e ▸ h3)
      rcases Nat.lt_or_ge k j with h7 | h7
      · have := hlen (show k + 1 ≤ j by omega) (by omega); omega
      · have := hlen (show j + 1 ≤ k by omega) (by omega); omega
  have hs := stepQ_sound (P := P) (D := D) (w := w) (a := a) (r := r) hF hs1 (h.rel.part (hidden ms ls j)) hag (fun i h1 h2 => hnew i (by simpa [aside_length] using h1) (by omega)) (h.closed j (by omega)) (h.slots j (by omega)) hAj (by rw [h.size]; exact (n_same hF hst hm j (by omega)).symm)
  intro K Q hK
  refine hs K Q ?_
  rintro a' w' ⟨r', u, k1, k2', rfl, k4'⟩
  have k2 := h.rel.back (U := hidden ms ls j) (fun i hi => .inl hi) (fun i hU hi => by
    rcases hi with hi | ⟨h1, h2⟩
    · exact hi
    · rcases hs2 i hU with h3 | h3
      · dsimp only at h1; rw [hl0] at h1; omega
      · omega) (fun i t hU e => by
    by_cases hi : ∃ k, L k ∧ (k, i) ∈ ls
    · obtain ⟨k, h1, h2⟩ := hi
      obtain ⟨_, _, cs, cs', e1, e2⟩ := hls k i h2
      rw [mix_get, e1] at e
      have hi : ∃ k, L k ∧ (k, i) ∈ ls := ⟨k, h1, h2⟩
      simp only [hi, if_true, Option.map_some, List.getD_eq_getElem?_getD, e2] at e
      simp at e
    · rw [mix_out hi] at e
      unfold hidden at hU
      rw [List.mem_filterMap] at hU
      obtain ⟨⟨k, i'⟩, h1, h2⟩ := hU
      dsimp only at h2
      split at h2
      · cases h2
      · cases h2
        obtain ⟨_, _, cs, cs', e1, e2⟩ := hls k i h1
        rw [e1] at e; cases e) k1 k2'
  refine hK _ _ ⟨r', k1, ?_⟩
  have k4 : ∀ d, o.dst = some d → d < a.tmps.size ∧ SlotRel r' (a.tmps.setIfInBounds d u) ((sts (j + 1)).ρ d) u ∧ ∀ t p v, (sts (j + 1)).ρ d = .when t p v → t ∈ o.looksAt ops := by
    rw [hs3]; exact k4'
  have hdA : ∀ i, i ≤ j ∨ ¬ L j → ∀ t, o.dst = some t → ¬ AL ops m L i t := fun i _ t ht hA => hLj (hA j o hjm hj ht).1
  have hold : ∀ i, i ≤ m → SOn (AL ops m L i) r' (sts i).ρ (a.put o.dst u).tmps := fun i hi => (h.slots i hi).put k1 (h.closed i hi) (hdA i (.inr hLj))
  have hlow : ∀ i, i ≤ j → AL ops m (fun i => i = j ∨ L i) i = AL ops m L i := fun i hi => by
    funext s
    refine propext ⟨fun hA k o' h1 h2 h3 => ?_, fun hA => hA.mono (fun _ => .inr) (Nat.le_refl _)⟩
    obtain ⟨q1, q2⟩ := hA k o' h1 h2 h3
    rcases q1 with q1 | q1
    · omega
    · exact ⟨q1, q2⟩
  have key : ∀ i, i ≤ m → SOn (AL ops m (fun i => i = j ∨ L i) i) r' (sts i).ρ (a.put o.dst u).tmps ∧ Closed (sts i).ρ (AL ops m (fun i => i = j ∨ L i) i) := by
    intro i
    induction i with
    | zero => intro hi; rw [hlow 0 (Nat.zero_le _)]; exact ⟨hold 0 hi, h.closed 0 hi⟩
    | succ i ih =>
      intro hi
      rcases Nat.lt_or_ge i j with hij | hij
      · rw [hlow (i + 1) (by omega)]; exact ⟨hold _ hi, h.closed _ hi⟩
      · obtain ⟨i1, i2⟩ := ih (by omega)
        have hisz : i < ops.size := by omega
        have hio := Array.getElem?_eq_getElem hisz
        have split : ∀ s, AL ops m (fun i => i = j ∨ L i) (i + 1) s → AL ops m (fun i => i = j ∨ L i) i s ∨ ((ops[i]'hisz).dst = some s ∧ (i = j ∨ L i)) := fun s hA => by
          by_cases hd : (ops[i]'hisz).dst = some s
          · exact .inr ⟨hd, (hA i _ (by omega) hio hd).1⟩
          · refine .inl fun k o' h1 h2 h3 => ?_
            obtain ⟨q1, q2⟩ := hA k o' h1 h2 h3
            refine ⟨q1, ?_⟩
            rcases Nat.lt_or_ge k i with q | q
            · exact q
            · have : k = i := by omega
              subst this
              rw [hio] at h2; cases h2
              exact absurd h3 hd
        obtain ⟨f1, f2⟩ := fstep_fwd (hst i _ (by omega) hio) i2 i1 fun d hd hA => by
          have := (hA i _ (by omega) hio hd).2; omega
        have hself : ∀ s, (ops[i]'hisz).dst = some s → (i = j ∨ L i) → SlotRel r' (a.put o.dst u).tmps ((sts (i + 1)).ρ s) ((a.put o.dst u).tmps.getD s Go.undef) ∧ ∀ t p v, (sts (i + 1)).ρ s = .when t p v → AL ops m (fun i => i = j ∨ L i) (i + 1) t := by
          intro s hd hL
          by_cases hij' : i = j
          · subst hij'
            rw [hio] at hj; cases hj
            obtain ⟨q1, q2, q3⟩ := k4 s hd
            refine ⟨?_, fun t p v e => (hAj t (q3 t p v e)).mono (fun _ => .inr) (by omega)⟩
            rw [act_put, hd]
            dsimp only
            rw [getD_set_self q1]; exact q2
          · have hLi : L i := by rcases hL with hL | hL; exact absurd hL hij'; exact hL
            have hA : AL ops m L (i + 1) s := fun k o' h1 h2 h3 => by
              have := ok_once ho h1 (by omega) h2 hio h3 hd
              subst this; exact ⟨hLi, by omega⟩
            exact ⟨hold (i + 1) hi s hA, fun t p v e => (h.closed (i + 1) hi s t p v hA e).mono (fun _ => .inr) (Nat.le_refl _)⟩
        constructor
        · intro s hA
          rcases split s hA with hA | ⟨hd, hL⟩
          · exact f1 s hA
          · exact (hself s hd hL).1
        · intro s t p v hA e
          rcases split s hA with hA | ⟨hd, hL⟩
          · exact (f2 s t p v hA e).mono (fun _ h => h) (by omega)
          · exact (hself s hd hL).2 t p v e
  have hmx : mix ls (sts m).own fin (fun i => i = j ∨ L i) = mix ls (sts m).own fin L := by
    apply List.ext_getElem?
    intro i
    have e : (∃ k, (k = j ∨ L k) ∧ (k, i) ∈ ls) ↔ ∃ k, L k ∧ (k, i) ∈ ls := by
      constructor
      · rintro ⟨k, rfl | h1, h2⟩
        · obtain ⟨_, ⟨o', h3, h4⟩, _⟩ := hls k i h2
          rw [hj] at h3; cases h3
          rw [hnl] at h4; cases h4
        · exact ⟨k, h1, h2⟩
      · rintro ⟨k, h1, h2⟩; exact ⟨k, .inr h1, h2⟩
    exact mix_iff e
  refine ⟨?_, by rw [put_size]; exact h.size, by rw [put_defers]; exact h.defers, fun i hi => (key i hi).1, fun i hi => (key i hi).2⟩
  rw [hmx]
  refine k2.congr fun id => ?_
  dsimp only
  rw [hl0, hl']
  constructor
  · rintro ((h1 | ⟨k, h1, h2⟩) | h1)
    · exact .inl h1
    · exact .inr ⟨k, .inr h1, h2⟩
    · exact .inr ⟨j, .inl rfl, hjm, h1⟩
  · rintro (h1 | ⟨k, rfl | h1, h2, h3⟩)
    · exact .inl (.inl h1)
    · exact .inr h3
    · exact .inl (.inr ⟨k, h1, h2, h3⟩)


theorem store_ref {t : TypeId} {v : AV} {vv : Value} {id off b n : Nat} {C : Nat × Nat} {cs : List AV} (hR : Rel w0 M S own r w) (hS : S id) (hn : szT P t = some n) (c1 : v.cells.length = n) (c2 : v.known = true) (c3 : v.cells.all AV.isCell = true)
    (hid : own[id]? = some (.cells cs)) (hle : off + n ≤ cs.length) (hι : r.ι id = some (b, C)) (hv : VRel r v vv) :
    ∃ w', (Instr.storeAt t (.pointer (some ⟨b, off, none⟩)) vv).run P w = .ok () w' ∧ Rel w0 M S (own.set id (.cells (splice cs off v.cells))) r w' := by
  have hcr := cells_rel hv c2
  have hlen := hcr.length
  have hone : ∀ u ∈ vv.cells.toList, u.oneCell' = true := by
    intro u hu
    obtain ⟨i, hi, he⟩ := List.getElem_of_mem hu
    have hi' : i < v.cells.length := by rw [← hlen]; exact hi
    obtain ⟨u', e1, e2⟩ := hcr.get (List.getElem?_eq_getElem hi')
    rw [List.getElem?_eq_getElem hi] at e1
    have : u' = u := by rw [← he]; exact (Option.some.inj e1).symm
    subst this
    exact cell_one e2 (List.all_eq_true.1 c3 _ (List.getElem_mem hi'))
  have hsz : vv.cells.size = n := by rw [← Array.length_toList, hlen, c1]
  rcases hR.blk id _ hS hid rfl with ⟨b', C', e1, ⟨vs, e, fz, k1, k2, k3⟩, _⟩ | ⟨e1, _⟩
  · rw [hι] at e1; cases e1
    have hst := run_storeCells (P := P) vv.cells.toList 0 off vs w k1 (by rw [hlen]; have := k2.length; omega) k3 hone
    refine ⟨_, by simp [Instr.storeAt, Instr.sureAddr, storeVar, run_sizeOf' hn, hsz]; exact hst, ?_⟩
    refine hR.writeS (k' := .cells (splice cs off v.cells)) (o := .cells (spliceV vs (off + 0) vv.cells.toList).toArray e fz) hS hid rfl hι ⟨_, e, fz, setBlk_at k1, splice_rel k2 hcr, ?_⟩
    have : (spliceV vs (off + 0) vv.cells.toList).length = vs.length := by
      rw [spliceV_eq _ _ _ (by rw [hlen]; have := k2.length; omega)]; simp only [List.length_append, List.length_take, List.length_drop]; rw [hlen]; have := k2.length; omega
    rw [this]; exact k3
  · rw [hι] at e1; cases e1

theorem JL.late (ho : orderly ops m = true) (hst : ∀ k o, k < m → ops[k]? = some o → FStep P F D ops ms ls k o (sts k) (sts (k + 1))) (_hm : m ≤ ops.size)
    (hls : ∀ p q, p ∈ ls → q ∈ ls → (p.1 = q.1 → p.2 = q.2) ∧ (p.2 = q.2 → p.1 = q.1)) (h : JL ops sts m ls fin w0 M L r a w)
    {j : Nat} {o : Oper} (hj : ops[j]? = some o) (hjm : j < m) (hLj : ¬ L j) (hLa : ∀ e ∈ o.after.toList, Region.binds .any e = true → L e.on) {t : TypeId} {d x : Operand} (hl : lateOf o = some (t, d, x)) (hs : LateIs P ls (sts m).ρ (sts m).own fin j t d x) :
    Steps1 P ops o a w fun a' w' => ∃ r', r.le r' ∧ JL ops sts m ls fin w0 M (fun i => i = j ∨ L i) r' a' w' := by
  obtain ⟨hg, hd, hop⟩ := lateOf_some hl
  obtain ⟨id, off, cs, n, q1, q2, q3, q4, q5, q6, q7, q8, q9⟩ := hs
  have hAj : ∀ s, .tmp s ∈ o.op.operands.toList → AL ops m L m s := fun s hs k o' h1 h2 h3 => by
    obtain ⟨e, k1, k2, k3⟩ := ok_reads ho hj hjm (t := s) (List.mem_append_left _ (mem_opTmps.2 hs)) h1 h2 h3
    subst k3
    exact ⟨hLa e k1 k2, h1⟩
  have hev : ∀ y, y ∈ o.op.operands.toList → VRel r (ev (sts m).ρ none y) (a.eval y) := fun y hy => by
    have h1 := (h.slots m (Nat.le_refl _)).only
    have h2 := ev_rel h1 (as := none) (fun _ _ e => by cases e) y
    rwa [ev_only (h.closed m (Nat.le_refl _)) none fun s e => hAj s (by rw [← e]; exact hy)] at h2
  have hvd := hev d (by rw [hop]; simp [Op.operands])
  have hvx := hev x (by rw [hop]; simp [Op.operands])
  rw [q1] at hvd
  simp only [VRel] at hvd
  obtain ⟨b, C, hι, hpt⟩ := hvd
  have hnot : ¬ ∃ k, L k ∧ (k, id) ∈ ls := by
    rintro ⟨k, h1, h2⟩
    have := (hls _ _ h2 q2).2 rfl
    dsimp only at this
    subst this; exact hLj h1
  obtain ⟨w', hw', hR'⟩ := store_ref (P := P) h.rel (h.rel.there hι) q3 q4 q5 q6 (by rw [mix_out hnot]; exact q7) q8 hι hvx
  have hy : Yields P o a w fun _ w'' => w'' = w' := by
    refine .skip (w' := w') ?_ rfl
    have e0 : execOp a.eval o = (do Instr.storeAt t (a.eval d) (a.eval x); pure .skip) := by unfold execOp; rw [hop]
    rw [e0, hpt]; simp [hw']
  intro K Q hK
  rw [if_pos (by simp [Region.wanted, hg])]
  refine hy K Q fun u w'' hu => hK _ _ ?_
  subst hu
  rw [hd]
  have hal : ∀ i, AL ops m (fun i => i = j ∨ L i) i = AL ops m L i := fun i => by
    funext s
    refine propext ⟨fun hA k o' h1 h2 h3 => ?_, fun hA => hA.mono (fun _ => .inr) (Nat.le_refl _)⟩
    obtain ⟨p1, p2⟩ := hA k o' h1 h2 h3
    refine ⟨?_, p2⟩
    rcases p1 with rfl | p1
    · rw [hj] at h2; cases h2
      rw [hd] at h3; cases h3
    · exact p1
  refine ⟨r, .refl r, ⟨?_, h.size, h.defers, fun i hi => by rw [hal]; exact h.slots i hi, fun i hi => by rw [hal]; exact h.closed i hi⟩⟩
  have hmx : mix ls (sts m).own fin (fun i => i = j ∨ L i) = (mix ls (sts m).own fin L).set id (.cells (splice cs off (ev (sts m).ρ none x).cells)) := by
    apply List.ext_getElem?
    intro i
    by_cases hi : i = id
    · subst hi
      have e : ∃ k, (k = j ∨ L k) ∧ (k, i) ∈ ls := ⟨j, .inl rfl, q2⟩
      have hlt : i < (sts m).own.length := (List.getElem?_eq_some_iff.1 q7).1
      rw [mix_get, List.getElem?_set_self (by rw [mix_length]; exact hlt), q7]
      simp only [e, if_true, Option.map_some, List.getD_eq_getElem?_getD, q9, Option.getD_some]
    · rw [List.getElem?_set_ne (fun e => hi e.symm)]
      have e : (∃ k, (k = j ∨ L k) ∧ (k, i) ∈ ls) ↔ ∃ k, L k ∧ (k, i) ∈ ls := by
        constructor
        · rintro ⟨k, rfl | h1, h2⟩
          · exact absurd ((hls _ _ h2 q2).1 rfl) hi
          · exact ⟨k, h1, h2⟩
        · rintro ⟨k, h1, h2⟩; exact ⟨k, .inr h1, h2⟩
      exact mix_iff e
  rw [hmx]
  refine hR'.congr fun i => ⟨fun hi => ?_, fun hi => ?_⟩
  · rcases hi with hi | ⟨k, h1, h2⟩
    · exact .inl hi
    · exact .inr ⟨k, .inr h1, h2⟩
  · rcases hi with hi | ⟨k, rfl | h1, h2, h3, h4⟩
    · exact .inl hi
    · rcases hst k o h2 hj with ⟨_, _, e⟩ | ⟨e, _⟩
      · rw [e] at h4; omega
      · rw [hl] at e; cases e
    · exact .inr ⟨k, h1, h2, h3, h4⟩

theorem late_spec {ρ : Env} : ∀ (l : List Oper) (k : Nat) (own fin : List Blk), (∀ p q, p ∈ ls → q ∈ ls → (p.1 = q.1 → p.2 = q.2) ∧ (p.2 = q.2 → p.1 = q.1)) → (runLate P ls ρ l k own).run = some fin →
    fin.length = own.length ∧ (∀ i, (∀ j o, l[j]? = some o → (lateOf o).isSome = true → (k + j, i) ∉ ls) → fin[i]? = own[i]?) ∧ ∀ j o t d x, l[j]? = some o → lateOf o = some (t, d, x) → LateIs P ls ρ own fin (k + j) t d x
  | [], k, own, fin, _, h => by
    have := run_ret h; subst this
    exact ⟨rfl, fun _ _ => rfl, fun j o t d x h => by simp at h⟩
  | o :: l, k, own, fin, hls, h => by
    unfold runLate at h
    split at h
    · rename_i t d x hl
      split at h
      · rename_i id off hev
        split at h
        · rename_i hany
          obtain ⟨⟨k', i'⟩, hmem, heq⟩ := List.any_eq_true.1 hany
          simp only [Bool.and_eq_true] at heq
          have e1 := Nat.eq_of_beq_eq_true heq.1
          have e2 := Nat.eq_of_beq_eq_true heq.2
          subst e1 e2
          obtain ⟨own1, h1, h2⟩ := run_bind h
          obtain ⟨n, cs, hn, c1, c2, c3, hrow, hle, rfl⟩ : ∃ n cs, szT P t = some n ∧ (ev ρ none x).cells.length = n ∧ (ev ρ none x).known = true ∧ (ev ρ none x).cells.all AV.isCell = true ∧ own[i']? = some (.cells cs) ∧ off + n ≤ cs.length ∧ own1 = own.set i' (.cells (splice cs off (ev ρ none x).cells)) := by
            unfold storeAV at h1
            split at h1
            · rename_i n hn
              split at h1
              · rename_i hc
                dsimp only at h1
                split at h1
                · rename_i cs hrow
                  split at h1
                  · rename_i hle
                    have := run_ret h1; subst this
                    exact ⟨n, cs, hn, hc.1, hc.2.1, hc.2.2, rowAt_some' hrow, hle, rfl⟩
                  · exact (run_fail h1).elim
                · exact (run_fail h1).elim
              · exact (run_fail h1).elim
            · exact (run_fail h1).elim
          obtain ⟨p1, p2, p3⟩ := late_spec l (k' + 1) _ fin hls h2
          have hid : i' < own.length := (List.getElem?_eq_some_iff.1 hrow).1
          refine ⟨by rw [p1]; simp, fun i hi => ?_, fun j o' t' d' x' hj hl' => ?_⟩
          · have hne : i ≠ i' := fun e => hi 0 o rfl (by rw [hl]; rfl) (by rw [e]; simpa using hmem)
            rw [p2 i fun j o' hj hlo => by
              have := hi (j + 1) o' (by simpa using hj) hlo
              rwa [show k' + 1 + j = k' + (j + 1) by omega]]
            rw [List.getElem?_set_ne (fun e => hne e.symm)]
          · cases j with
            | zero =>
              simp at hj; subst hj
              rw [hl] at hl'; cases hl'
              refine ⟨i', off, cs, n, hev, hmem, hn, c1, c2, c3, hrow, hle, ?_⟩
              rw [p2 i' fun j o' hj hlo hmem' => by
                have := (hls _ _ hmem hmem').2 rfl
                dsimp only at this; omega]
              rw [List.getElem?_set_self hid]
            | succ j =>
              obtain ⟨id2, off2, cs2, n2, r1, r2, r3, r4, r5, r6, r7, r8, r9⟩ := p3 j o' t' d' x' (by simpa using hj) hl'
              rw [show k' + 1 + j = k' + (j + 1) by omega] at r2
              have hne : id2 ≠ i' := fun e => by
                have := (hls _ _ r2 hmem).2 e
                dsimp only at this; omega
              rw [List.getElem?_set_ne (fun e => hne e.symm)] at r7
              exact ⟨id2, off2, cs2, n2, r1, r2, r3, r4, r5, r6, r7, r8, r9⟩
        · exact (run_fail h).elim
      · exact (run_fail h).elim
    · rename_i hl
      obtain ⟨p1, p2, p3⟩ := late_spec l (k + 1) _ fin hls h
      refine ⟨p1, fun i hi => p2 i fun j o' hj hlo => ?_, fun j o' t' d' x' hj hl' => ?_⟩
      · have := hi (j + 1) o' (by simpa using hj) hlo
        rwa [show k + 1 + j = k + (j + 1) by omega]
      · cases j with
        | zero => simp at hj; subst hj; rw [hl] at hl'; cases hl'
        | succ j =>
          have := p3 j o' t' d' x' (by simpa using hj) hl'
          rwa [show k + 1 + j = k + (j + 1) by omega] at this
 where
  rowAt_some' {own : List Blk} {id : Nat} {cs : List AV} (h : rowAt own id = .cells cs) : own[id]? = some (.cells cs) :=
    rowAt_live (own := own) (ownF := own) (fun _ _ => rfl) h rfl

theorem draw_all (J : (Nat → Prop) → Res → Act → World → Prop) {st1 : Nat → St} (hF : QuietOK P F.quiet) (hD : DeepOK P F.deep) (ho : orderly ops m = true) (hf : forcedFrom ops m = true) (hm : m ≤ ops.size)
    (hJ : ∀ L r a w j o, Down ops L → (∀ k, L k → k < m) → J L r a w → ops[j]? = some o → j < m → ¬ L j → (∀ e ∈ o.after.toList, Region.binds .any e = true → L e.on) → Steps1 P ops o a w fun a' w' => ∃ r', r.le r' ∧ J (fun i => i = j ∨ L i) r' a' w')
    (hE : ∀ L r a w, (∀ i, L i ↔ i < m) → J L r a w → StRel w0 M (st1 m) r a w)
    (hst : ∀ k o, m ≤ k → ops[k]? = some o → (stepOp P F D ops true (st1 k) o).run = some (st1 (k + 1)))
    (hQ : ∀ a' w', (∃ r', r0.le r' ∧ StRel w0 M (st1 ops.size) r' a' w') → Q .normal a' w') : ∀ (fuel : Nat) (listed : Array Bool) (r : Res) (a : Act) (w : World), listed.size = ops.size → (∀ i, On listed i → i < m) → Down ops (On listed) → unl ops.size listed ≤ fuel →
      r0.le r → J (On listed) r a w → wpAny P .any ops Q fuel listed a w := by
  intro fuel
  induction fuel with
  | zero =>
    intro listed r a w h3 h4 hdn h5 h6 h7
    have hall := unl_zero (Nat.le_zero.1 h5)
    exact draw_late hF hD ho hf hst hQ 0 m listed r a w (Nat.le_refl _) hm h3 (fun i => ⟨h4 i, fun hi => hall i (by omega)⟩) hdn h5 h6 (hE _ _ _ _ (fun i => ⟨h4 i, fun hi => hall i (by omega)⟩) h7)
  | succ fuel ih =>
    intro listed r a w h3 h4 hdn h5 h6 h7
    by_cases hall : ∀ i, i < m → On listed i
    · exact draw_late hF hD ho hf hst hQ _ m listed r a w (Nat.le_refl _) hm h3 (fun i => ⟨h4 i, hall i⟩) hdn h5 h6 (hE _ _ _ _ (fun i => ⟨h4 i, hall i⟩) h7)
    · simp only [Classical.not_forall] at hall
      obtain ⟨i0, hi0, hn0⟩ := hall
      constructor
      · intro hnil
        obtain ⟨j, _, hj⟩ := ready_least ho h3 (i := i0) (by omega) hn0
        rw [hnil] at hj; simp at hj
      · intro i hi
        obtain ⟨o, q1, q2, q3⟩ := (mem_ready h3).1 hi
        have hisz : i < ops.size := (Array.getElem?_eq_some_iff.1 q1).1
        have him : i < m := by
          apply Classical.byContradiction; intro hne
          exact hn0 (forced hf hdn q1 (by omega) q3 i0 (by omega))
        refine wpOp_of q1 (hJ _ _ _ _ i o hdn h4 h7 q1 him q2 q3) ?_
        rintro a' w' ⟨r', k1, k2⟩
        have hon := on_set (listed := listed) (i := i) (by omega)
        have hon' : On (listed.setIfInBounds i true) = fun j => j = i ∨ On listed j := funext fun j => propext (hon j)
        refine ih _ r' a' w' (by simpa using h3) (fun j hj => ?_) ?_ ?_ (h6.trans k1) (by rw [hon']; exact k2)
        · rw [hon] at hj
          rcases hj with rfl | hj
          · exact him
          · exact h4 j hj
        · intro j o' hj hjo e he hb
          rw [hon] at hj ⊢
          rcases hj with rfl | hj
          · rw [q1] at hjo; cases hjo
            exact .inr (q3 e he hb)
          · exact .inr (hdn j o' hj hjo e he hb)
        · have := unl_set h3 hisz q2; omega

theorem draw_sound' (hF : QuietOK P F.quiet) (hD : DeepOK P F.deep) {st st' : St} (hw : ∀ s t p v, st.ρ s ≠ .when t p v)
    (h : (drawRun P F D ops st).run = some st') (hR : StRel w0 M st r a w) (hQ : ∀ a' w', (∃ r', r.le r' ∧ StRel w0 M st' r' a' w') → Q .normal a' w') :
    wpAny P .any ops Q ops.size (Array.replicate ops.size false) a { w with drawn := w.drawn + 1 } := by
  unfold drawRun at h
  dsimp only at h
  split at h
  case isFalse => exact (run_fail h).elim
  rename_i hc
  simp only [Bool.and_eq_true] at hc
  obtain ⟨hd, hlo⟩ := hc
  simp only [drawOK, Bool.and_eq_true] at hd
  obtain ⟨ho, hf⟩ := hd
  obtain ⟨st1, h1, h⟩ := run_bind h
  obtain ⟨fin, h2, h3⟩ := run_bind h
  obtain ⟨sts, s0, s1, s2⟩ := free_states _ _ _ _ h1
  obtain ⟨sts1, t0, t1, t2⟩ := walk_states _ _ _ _ h3
  have hmn : freeTo ops ≤ ops.size := by unfold freeTo; omega
  simp only [Nat.zero_add, List.length_take, Array.length_toList, Nat.min_eq_left hmn] at s1 s2
  simp only [List.length_drop, Array.length_toList, Nat.add_sub_cancel' hmn] at t1
  have hp : ∀ p q, p ∈ lates ops.toList st (ops.toList.take (freeTo ops)) 0 → q ∈ lates ops.toList st (ops.toList.take (freeTo ops)) 0 → (p.1 = q.1 → p.2 = q.2) ∧ (p.2 = q.2 → p.1 = q.1) := by
    intro p q hp hq
    have := List.all_eq_true.1 hlo p hp
    simp only [Bool.and_eq_true] at this
    have := List.all_eq_true.1 this.2 q hq
    simp only [Bool.and_eq_true, Bool.or_eq_true, Bool.not_eq_true'] at this
    refine ⟨fun e => ?_, fun e => ?_⟩
    · rcases this.1 with h | h
      · rw [e] at h; simp at h
      · exact Nat.eq_of_beq_eq_true h
    · rcases this.2 with h | h
      · rw [e] at h; simp at h
      · exact Nat.eq_of_beq_eq_true h
  have hlast : ∀ k i, (k, i) ∈ lates ops.toList st (ops.toList.take (freeTo ops)) 0 → k < freeTo ops ∧ ∃ o, ops[k]? = some o ∧ (lateOf o).isSome = true := by
    intro k i hk
    have := List.all_eq_true.1 hlo _ hk
    simp only [Bool.and_eq_true, Nat.blt_eq] at this
    refine ⟨this.1.1, ?_⟩
    have h4 := this.1.2
    cases ho : ops[k]? with
    | none => rw [ho] at h4; cases h4
    | some o => rw [ho] at h4; exact ⟨o, rfl, h4⟩
  generalize hlsd : lates ops.toList st (ops.toList.take (freeTo ops)) 0 = ls at *
  obtain ⟨l1, l2, l3⟩ := late_spec (ls := ls) _ _ _ _ hp h2
  have hst : ∀ k o, k < freeTo ops → ops[k]? = some o → FStep P F D ops (masks ops.toList []) ls k o (sts k) (sts (k + 1)) := fun k o hk hko => by
    have := s2 k o (by rw [List.getElem?_take_of_lt hk, Array.getElem?_toList]; exact hko)
    exact this
  have hl3 : ∀ k o t d x, k < freeTo ops → ops[k]? = some o → lateOf o = some (t, d, x) → LateIs P ls (sts (freeTo ops)).ρ (sts (freeTo ops)).own fin k t d x := fun k o t d x hk hko hl => by
    have := l3 k o t d x (by rw [List.getElem?_take_of_lt hk, Array.getElem?_toList]; exact hko) hl
    rw [Nat.zero_add, ← s1] at this
    exact this
  have hls : ∀ k i, (k, i) ∈ ls → k < freeTo ops ∧ (∃ o, ops[k]? = some o ∧ (lateOf o).isSome = true) ∧ ∃ cs cs', (sts (freeTo ops)).own[i]? = some (.cells cs) ∧ fin[i]? = some (.cells cs') := fun k i hk => by
    obtain ⟨k1, o, k2, k3⟩ := hlast k i hk
    refine ⟨k1, ⟨o, k2, k3⟩, ?_⟩
    obtain ⟨⟨t, d, x⟩, hx⟩ := Option.isSome_iff_exists.1 k3
    obtain ⟨id', off, cs, n, _, q2, _, _, _, _, q7, _, q9⟩ := hl3 k o t d x k1 k2 hx
    have := (hp _ _ hk q2).1 rfl
    dsimp only at this
    subst this
    exact ⟨_, _, q7, q9⟩
  have hRd : StRel w0 M (sts 0) r a { w with drawn := w.drawn + 1 } := by
    rw [s0]; exact ⟨hR.rel.same ⟨rfl, rfl, rfl, ⟨rfl, Nat.le_succ _⟩⟩, hR.fr, hR.size, hR.defers⟩
  refine (draw_all (P := P) (F := F) (D := D) (m := freeTo ops) (w0 := w0) (M := M) (fun L r a w => JL ops sts (freeTo ops) ls fin w0 M L r a w) (st1 := sts1) (r0 := r) hF hD ho hf hmn ?_ ?_ ?_ (fun a' w' h => hQ a' w' (by rw [t1] at h; exact h)) ops.size _ r a _ (by simp) ?_ ?_ ?_ (.refl r) ?_)
  · intro L r a w j o hdn hLm hJ hj hjm hLj hLa
    cases hx : lateOf o with
    | none => exact hJ.step hF ho rfl hst hmn hls hdn hLm hj hjm hLj hLa hx
    | some y =>
      obtain ⟨t, d, x⟩ := y
      exact hJ.late ho hst hmn hp hj hjm hLj hLa hx (hl3 j o t d x hjm hj hx)
  · intro L r a w hL hJ
    have := hJ.done hF hst hmn hL (by rw [l1, s1]) (fun i hi => by
      rw [l2 i fun j o hj _ hmem => hi ⟨j, ?_, by simpa using hmem⟩, s1]
      have : j < (ops.toList.take (freeTo ops)).length := (List.getElem?_eq_some_iff.1 hj).1
      rw [List.length_take] at this; omega)
    rw [t0, ← s1]; exact this
  · intro k o hk hko
    have := t2 (k - freeTo ops) o (by rw [List.getElem?_drop, show freeTo ops + (k - freeTo ops) = k by omega, Array.getElem?_toList]; exact hko)
    rw [show freeTo ops + (k - freeTo ops) = k by omega] at this
    exact this
  · intro i hi
    unfold On at hi
    simp [Array.getD_eq_getD_getElem?, Array.getElem?_replicate] at hi
    split at hi <;> simp at hi
  · intro i o hi
    unfold On at hi
    simp [Array.getD_eq_getD_getElem?, Array.getElem?_replicate] at hi
    split at hi <;> simp at hi
  · unfold unl
    have := List.countP_le_length (p := fun i => !(Array.replicate ops.size false).getD i false) (l := List.range ops.size)
    rwa [List.length_range] at this
  · have he : On (Array.replicate ops.size false) = fun _ => False := by
      funext i
      unfold On
      refine propext ⟨fun hi => ?_, False.elim⟩
      simp [Array.getD_eq_getD_getElem?, Array.getElem?_replicate] at hi
      split at hi <;> simp at hi
    rw [he]
    exact JL.start hst hmn (by rw [s0]; exact hw) (agree_grow hF hst hmn (Nat.zero_le _)) hRd

end
end Go.Proofs.Pen

namespace Go.Proofs.Pen
open Go RowKit

section
variable {P : Program} {w0 : Base P} {w : World} {M S : Nat → Prop} {own : List Blk} {r : Res}

theorem Rel.list (h : Rel w0 M S own r w) {own' : List Blk} (e : ∀ i, S i → own'[i]? = own[i]?) : Rel w0 M S own' r w where
  os := h.os
  tape := h.tape
  output := ⟨h.output.out, h.output.drawn⟩
  size := h.size
  base := h.base
  pers := h.pers
  blk id k hs hk hl := h.blk id k hs (by rw [← e id hs]; exact hk) hl
  inj i j k l b C C' hi hj hk hl lk ll e1 e2 := h.inj i j k l b C C' hi hj (by rw [← e i hi]; exact hk) (by rw [← e j hj]; exact hl) lk ll e1 e2
  dom := h.dom
  up := h.up
  zero := h.zero
  glob := h.glob

def besides (S : Nat → Prop) (U : List Nat) (r : Res) (i : Nat) : Prop := S i ∧ ¬ (i ∈ U ∧ r.ι i = none)

def zeroQ {P : Program} (w0 : Base P) (U : List Nat) (i : Nat) : Prop := w0.Z i ∧ i ∉ U

theorem Rel.partQ (h : Rel w0 M S own r w) (U : List Nat) : Rel (baseAt P (zeroQ w0 U) w r) (liveAt S (aside U own) r) (besides S U r) (aside U own) r w where
  os := rfl
  tape := rfl
  output := .refl _
  size := Nat.le_refl _
  base _ _ _ := rfl
  pers := h.pers
  blk id k hs hk hl := by
    obtain ⟨h1, _⟩ := aside_live hk hl
    rcases h.blk id k hs.1 h1 hl with ⟨b, C, e1, e2, _, e4⟩ | h'
    · exact .inl ⟨b, C, e1, e2, .inl ⟨id, k, C, hs.1, hk, hl, e1⟩, e4⟩
    · exact .inr h'
  inj i j k l b C C' hi hj hk hl lk ll e1 e2 := h.inj i j k l b C C' hi.1 hj.1 (aside_live hk lk).1 (aside_live hl ll).1 lk ll e1 e2
  dom i hi := by
    by_cases hS : S i
    · by_cases hU : i ∈ U ∧ r.ι i = none
      · exact hU.2
      · exact absurd ⟨hS, hU⟩ hi
    · exact h.dom i hS
  up a v e := .inl e
  zero i hz := ⟨⟨(h.zero i hz.1).1, fun e => hz.2 e.1⟩, (h.zero i hz.1).2⟩
  glob := h.glob

theorem Rel.backG (h : Rel w0 M S own r w) {U : List Nat} {S' S2 : Nat → Prop} {own' own2 : List Blk} {r' : Res} {w' : World} (hS : ∀ i, S2 i → S' i ∨ (S i ∧ i ∈ U ∧ r.ι i = none ∧ ¬ S' i)) (hS' : ∀ i, S' i → S2 i) (hU : ∀ i, i ∈ U → S' i → S i)
    (hz : ∀ i, i ∈ U → r.ι i = none → ¬ S' i) (hSS : ∀ i, S i → S2 i) (hle : r.le r') (k : Rel (baseAt P (zeroQ w0 U) w r) (liveAt S (aside U own) r) S' own' r' w')
    (h1 : ∀ i, i ∈ U → own2[i]? = own[i]?) (h2 : ∀ i, i ∉ U → S' i → own2[i]? = own'[i]?) : Rel w0 M S2 own2 r' w' := by
  have hlt : ∀ {i b C kk}, S i → own[i]? = some kk → isLive kk = true → r.ι i = some (b, C) → b < w.heap.size := fun {i b C kk} hi hk hl e => by
    rcases h.blk i kk hi hk hl with ⟨b', C', e1, e2, _⟩ | ⟨e1, _⟩
    · rw [e] at e1; cases e1; exact brel_lt e2 hl
    · rw [e] at e1; cases e1
  have hMM : ∀ {b}, liveAt S (aside U own) r b → M b ∨ w0.heap.size ≤ b := by
    rintro b ⟨i, kk, C, hi, hk, hl, e⟩
    rcases h.blk i kk hi (aside_live hk hl).1 hl with ⟨b', C', e1, _, e3, _⟩ | ⟨e1, _⟩
    · rw [e] at e1; cases e1; exact e3
    · rw [e] at e1; cases e1
  have hsz : w.heap.size ≤ w'.heap.size := k.size
  have hsep : ∀ {i b C kk}, i ∈ U → S i → own[i]? = some kk → isLive kk = true → r.ι i = some (b, C) → ¬ liveAt S (aside U own) r b := by
    rintro i b C kk hi hSi hk hl e ⟨j, kj, Cj, hSj, hkj, hlj, ej⟩
    obtain ⟨q1, q2⟩ := aside_live hkj hlj
    have := h.inj i j kk kj b C Cj hSi hSj hk q1 hl hlj e ej
    subst this; exact q2 hi
  have hSU : ∀ i, i ∈ U → S2 i → S i := fun i hi hs => by
    rcases hS i hs with h' | h'
    · exact hU i hi h'
    · exact h'.1
  have hSN : ∀ i, i ∉ U → S2 i → S' i := fun i hi hs => by
    rcases hS i hs with h' | h'
    · exact h'
    · exact absurd h'.2.1 hi
  -- those put aside that no block stands for
  have hnone : ∀ i t, i ∈ U → S2 i → own[i]? = some (.row t []) → r.ι i = none → r'.ι i = none := by
    intro i t hi hs hk e
    exact k.dom i (hz i hi e)
  constructor
  · exact k.os.trans h.os
  · exact k.tape.trans h.tape
  · exact k.output.trans h.output
  · exact Nat.le_trans h.size hsz
  · intro b h1 h2
    have := h.size
    rw [k.base b (show b < w.heap.size by omega) (fun hm => by rcases hMM hm with hm | hm; exact h2 hm; omega)]
    exact h.base b h1 h2
  · exact k.pers
  · intro id kk hs hk hl
    by_cases hi : id ∈ U
    · have hSi := hSU id hi hs
      rw [h1 id hi] at hk
      rcases h.blk id kk hSi hk hl with ⟨b, C, e1, e2, e3, e4⟩ | ⟨e1, t, e2⟩
      · have hb := hlt hSi hk hl e1
        refine .inl ⟨b, C, hle.ι _ _ e1, (e2.heap (k.base b hb (hsep hi hSi hk hl e1))).mono hle, e3, fun a v e => ?_⟩
        rcases k.up a v e with e | e | e
        · exact e4 a v e
        · intro hab
          have : w.heap.size ≤ a.block := e
          omega
        · exact fun hab => hsep hi hSi hk hl e1 (hab ▸ e)
      · subst e2; exact .inr ⟨hnone id t hi hs hk e1, t, rfl⟩
    · have hs' := hSN id hi hs
      rcases k.blk id kk hs' (by rw [← h2 id hi hs']; exact hk) hl with ⟨b, C, e1, e2, e3, e4⟩ | h'
      · refine .inl ⟨b, C, e1, e2, ?_, e4⟩
        rcases e3 with e3 | e3
        · exact hMM e3
        · have : w.heap.size ≤ b := e3
          have := h.size
          exact .inr (by omega)
      · exact .inr h'
  · intro i j ki kj b C C' hi hj hki hkj hli hlj e1 e2
    have key : ∀ {i j ki kj b C C'}, i ∈ U → S2 i → S2 j → own2[i]? = some ki → own2[j]? = some kj → isLive ki = true → isLive kj = true → r'.ι i = some (b, C) → r'.ι j = some (b, C') → i = j := by
      intro i j ki kj b C C' hiU hi hj hki hkj hli hlj e1 e2
      have hSi := hSU i hiU hi
      rw [h1 i hiU] at hki
      rcases h.blk i ki hSi hki hli with ⟨b1, C1, m1, m2, _⟩ | ⟨m0, t, m1⟩
      · have m1' := hle.ι _ _ m1
        rw [e1] at m1'; cases m1'
        have hb := brel_lt m2 hli
        by_cases hjU : j ∈ U
        · have hSj := hSU j hjU hj
          rw [h1 j hjU] at hkj
          rcases h.blk j kj hSj hkj hlj with ⟨b2, C2, n1, _⟩ | ⟨n0, t, n1⟩
          · have n1' := hle.ι _ _ n1
            rw [e2] at n1'; cases n1'
            exact h.inj i j ki kj b C C' hSi hSj hki hkj hli hlj m1 n1
          · subst n1; rw [hnone j t hjU hj hkj n0] at e2; cases e2
        · have hj' := hSN j hjU hj
          rcases k.blk j kj hj' (by rw [← h2 j hjU hj']; exact hkj) hlj with ⟨b2, C2, n1, _, n3, _⟩ | ⟨n1, _⟩
          · rw [e2] at n1; cases n1
            rcases n3 with n3 | n3
            · exact absurd n3 (hsep hiU hSi hki hli m1)
            · have : w.heap.size ≤ b := n3
              omega
          · rw [e2] at n1; cases n1
      · subst m1; rw [hnone i t hiU hi hki m0] at e1; cases e1
    by_cases hiU : i ∈ U
    · exact key hiU hi hj hki hkj hli hlj e1 e2
    · by_cases hjU : j ∈ U
      · exact (key hjU hj hi hkj hki hlj hli e2 e1).symm
      · exact k.inj i j ki kj b C C' (hSN i hiU hi) (hSN j hjU hj) (by rw [← h2 i hiU (hSN i hiU hi)]; exact hki) (by rw [← h2 j hjU (hSN j hjU hj)]; exact hkj) hli hlj e1 e2
  · intro i hi
    exact k.dom i fun h' => hi (hS' i h')
  · intro a v e
    rcases k.up a v e with e | e | e
    · exact h.up a v e
    · have : w.heap.size ≤ a.block := e
      have := h.size
      exact .inr (.inl (by omega))
    · exact .inr (hMM e).symm
  · intro i hzi
    obtain ⟨z1, z2⟩ := h.zero i hzi
    refine ⟨hSS i z1, ?_⟩
    by_cases hU : i ∈ U
    · exact k.dom i (hz i hU z2)
    · exact (k.zero i ⟨hzi, hU⟩).2
  · exact k.glob

end

def Res.cut (r : Res) (n : Nat) : Res := { H := r.H, ι := fun i => if i < n then r.ι i else none }

theorem cut_ι {r : Res} {n i : Nat} {p : Nat × (Nat × Nat)} (hi : i < n) (h : r.ι i = some p) : (r.cut n).ι i = some p := by
  show (if i < n then _ else _) = _
  rw [if_pos hi]; exact h

mutual
theorem cut_rel {r : Res} {n : Nat} : ∀ (v : AV) (u : Value), (∀ i, i ∈ v.ids → i < n) → VRel r v u → VRel (r.cut n) v u
  | .junk, _, _, _ => by simp [VRel]
  | .undef, _, _, k => by simpa [VRel] using k
  | .tt, _, _, k => by simpa [VRel] using k
  | .ff, _, _, k => by simpa [VRel] using k
  | .bo _, _, _, k => by simpa [VRel] using k
  | .it _ _, _, _, k => by simpa [VRel] using k
  | .sr _, _, _, k => by simpa [VRel] using k
  | .fl _, _, _, k => by simpa [VRel] using k
  | .agg cs, _, n, k => by
    simp only [VRel, AV.ids] at k n ⊢
    obtain ⟨vs, e, k⟩ := k
    exact ⟨vs, e, cut_relL cs vs n k⟩
  | .tup cs, _, n, k => by
    simp only [VRel, AV.ids] at k n ⊢
    obtain ⟨vs, e, k⟩ := k
    exact ⟨vs, e, cut_relL cs vs n k⟩
  | .sl t xs, _, _, k => by simp only [VRel] at k ⊢; exact k
  | .slx t xs, _, _, k => by simp only [VRel] at k ⊢; exact k
  | .osl t id off len cap, _, n, k => by
    simp only [VRel, AV.ids] at k n ⊢
    obtain ⟨p, c, e, l, hc, k⟩ := k
    refine ⟨p, c, e, l, hc, ?_⟩
    rcases k with k | ⟨b, C, e1, k⟩
    · exact .inl k
    · exact .inr ⟨b, C, cut_ι (n id (by simp)) e1, k⟩
  | .ref id off, _, n, k => by
    simp only [VRel, AV.ids] at k n ⊢
    obtain ⟨b, C, e1, k⟩ := k
    exact ⟨b, C, cut_ι (n id (by simp)) e1, k⟩
  | .rel t id ix off, _, n, k => by
    simp only [VRel, AV.ids] at k n ⊢
    obtain ⟨b, C, e1, k⟩ := k
    exact ⟨b, C, cut_ι (n id (by simp)) e1, k⟩
  | .ptr cs, _, n, k => by
    simp only [VRel, AV.ids] at k n ⊢
    obtain ⟨p, us, e, k1, k2⟩ := k
    exact ⟨p, us, e, cut_relL cs us n k1, k2⟩
  | .nilp, _, _, k => by simpa [VRel] using k
  | .nilf, _, _, k => by simpa [VRel] using k
  | .nili, _, _, k => by simpa [VRel] using k
  | .nilsl, _, _, k => by simpa [VRel] using k
  | .hnd _ _, _, _, k => by simpa [VRel] using k
  | .clo f a c, _, n, k => by
    simp only [VRel, AV.ids, List.mem_append] at k n ⊢
    obtain ⟨us, ws, e, k1, k2⟩ := k
    exact ⟨us, ws, e, cut_relL a us (fun i hi => n i (.inl hi)) k1, cut_relL c ws (fun i hi => n i (.inr hi)) k2⟩
  | .ifc t x, _, n, k => by
    simp only [VRel, AV.ids] at k n ⊢
    obtain ⟨u, e, k⟩ := k
    exact ⟨u, e, cut_rel x u n k⟩
  | .when _ _ _, _, _, k => by simp [VRel] at k
  | .er _ _ _, _, _, k => by simpa [VRel] using k
  | .nsl b v, u, n, k => by
    simp only [VRel, AV.ids] at k n ⊢
    exact ⟨cut_rel v u n k.1, k.2⟩
  | .mpr id, _, n, k => by
    simp only [VRel, AV.ids] at k n ⊢
    obtain ⟨b, C, e1, k⟩ := k
    exact ⟨b, C, cut_ι (n id (by simp)) e1, k⟩
theorem cut_relL {r : Res} {n : Nat} : ∀ (cs : List AV) (vs : List Value), (∀ i, i ∈ AV.idsL cs → i < n) → LRel r cs vs → LRel (r.cut n) cs vs
  | [], _, _, k => by simpa [LRel] using k
  | c :: cs, _, n, k => by
    simp only [LRel, AV.idsL, List.mem_append] at k n ⊢
    obtain ⟨v, ws, e, k1, k2⟩ := k
    exact ⟨v, ws, e, cut_rel c v (fun i hi => n i (.inl hi)) k1, cut_relL cs ws (fun i hi => n i (.inr hi)) k2⟩
end

theorem cut_slot {r : Res} {n : Nat} {tm : Array Value} {v : AV} {u : Value} (h : ∀ i, i ∈ v.ids → i < n) (k : SlotRel r tm v u) : SlotRel (r.cut n) tm v u := by
  cases v with
  | when t p y =>
    simp only [SlotRel, AV.ids] at k h ⊢
    rcases k with ⟨k1, k2⟩ | k
    · exact .inl ⟨k1, cut_rel _ _ h k2⟩
    · exact .inr k
  | _ => exact cut_rel _ _ h k

section
variable {P : Program} {w0 : Base P} {w : World} {M S : Nat → Prop} {own ownK : List Blk} {r : Res}

def liveR (ownK : List Blk) (r : Res) (b : Nat) : Prop := ∃ i k C, i < ownK.length ∧ ownK[i]? = some k ∧ isLive k = true ∧ r.ι i = some (b, C)

def zeroR {P : Program} (w0 : Base P) (ownK : List Blk) (U : List Nat) (r : Res) (i : Nat) : Prop := i < ownK.length ∧ r.ι i = none ∧ (i ∈ U ∨ w0.Z i)

theorem Rel.partR (h : Rel w0 M S own r w) {U : List Nat} (hin : ∀ i, i < ownK.length → i ∉ U → S i ∧ own[i]? = ownK[i]?) (hids : ∀ i cs, i ∉ U → ownK[i]? = some (.cells cs) → ∀ j, j ∈ AV.idsL cs → j < ownK.length) :
    Rel (baseAt P (zeroR w0 ownK U r) w r) (liveR (aside U ownK) r) (Sn (aside U ownK)) (aside U ownK) (r.cut ownK.length) w := by
  have hl : (aside U ownK).length = ownK.length := aside_length _ _
  have hb : ∀ {b C k}, BRel r w b C k → (∀ cs, k = .cells cs → ∀ j, j ∈ AV.idsL cs → j < ownK.length) → BRel (r.cut ownK.length) w b C k := by
    intro b C k hb hi
    cases k with
    | cells cs => obtain ⟨vs, e, fz, h1, h2, h3⟩ := hb; exact ⟨vs, e, fz, h1, cut_relL _ _ (hi cs rfl) h2, h3⟩
    | row t xs => exact hb
    | dead => trivial
    | mp l => exact hb
  have hget : ∀ {i p}, (r.cut ownK.length).ι i = some p → r.ι i = some p := fun {i p} e => by
    have e : (if i < ownK.length then r.ι i else none) = some p := e
    split at e
    · exact e
    · cases e
  constructor
  · rfl
  · rfl
  · exact .refl _
  · exact Nat.le_refl _
  · intro _ _ _; rfl
  · exact h.pers
  · intro id k hs hk hlv
    have hs : id < ownK.length := by rw [← hl]; exact hs
    obtain ⟨h1, h2⟩ := aside_live hk hlv
    obtain ⟨h3, h4⟩ := hin id hs h2
    rcases h.blk id k h3 (by rw [h4]; exact h1) hlv with ⟨b, C, e1, e2, _, e4⟩ | ⟨e1, e2⟩
    · exact .inl ⟨b, C, cut_ι hs e1, hb e2 (fun cs e => by subst e; exact hids id cs h2 h1), .inl ⟨id, k, C, by rw [hl]; exact hs, hk, hlv, e1⟩, e4⟩
    · refine .inr ⟨?_, e2⟩
      show (if id < ownK.length then _ else _) = _
      rw [if_pos hs]; exact e1
  · intro i j k l b C C' hi hj hk hlk lk ll e1 e2
    have hi : i < ownK.length := by rw [← hl]; exact hi
    have hj : j < ownK.length := by rw [← hl]; exact hj
    obtain ⟨a1, a2⟩ := aside_live hk lk
    obtain ⟨b1, b2⟩ := aside_live hlk ll
    exact h.inj i j k l b C C' (hin i hi a2).1 (hin j hj b2).1 (by rw [(hin i hi a2).2]; exact a1) (by rw [(hin j hj b2).2]; exact b1) lk ll (hget e1) (hget e2)
  · intro i hi
    have hi : ¬ i < ownK.length := fun e => hi (by show i < _; rw [hl]; exact e)
    show (if i < ownK.length then _ else _) = _
    rw [if_neg hi]
  · intro a v e; exact .inl e
  · intro i hz
    obtain ⟨z1, z2, _⟩ := hz
    refine ⟨by show i < _; rw [hl]; exact z1, ?_⟩
    show (if i < ownK.length then _ else _) = _
    rw [if_pos z1]; exact z2
  · exact h.glob

theorem Rel.backR (h : Rel w0 M S own r w) {U : List Nat} {own' own2 : List Blk} {r1 : Res} {w' : World} (hin : ∀ i, i < ownK.length → i ∉ U → S i ∧ own[i]? = ownK[i]?)
    (hUl : ∀ i, i ∈ U → i < ownK.length) (hn : ownK.length ≤ own'.length) (hnew : ∀ i, ownK.length ≤ i → i < own'.length → ¬ S i)
    (hle : (r.cut ownK.length).le r1) (k : Rel (baseAt P (zeroR w0 ownK U r) w r) (liveR (aside U ownK) r) (Sn own') own' r1 w')
    (h1 : ∀ i, (i ∈ U ∨ own'.length ≤ i) → own2[i]? = own[i]?) (h2 : ∀ i, i ∉ U → i < own'.length → own2[i]? = own'[i]?) :
    let r' : Res := { H := r1.H, ι := fun i => if i < own'.length then r1.ι i else r.ι i }
    r.le r' ∧ r1.le r' ∧ Rel w0 M (fun i => S i ∨ (ownK.length ≤ i ∧ i < own'.length)) own2 r' w' := by
  intro r'
  have hl : (aside U ownK).length = ownK.length := aside_length _ _
  have hle1 : r1.le r' := ⟨fun _ _ e => e, fun i p e => by
    show (if i < own'.length then _ else _) = _
    by_cases hi : i < own'.length
    · rw [if_pos hi]; exact e
    · rw [k.dom i hi] at e; cases e⟩
  have hle' : r.le r' := ⟨fun a v e => hle.H a v e, fun i p e => by
    show (if i < own'.length then _ else _) = _
    by_cases hi : i < own'.length
    · rw [if_pos hi]
      by_cases hk : i < ownK.length
      · exact hle.ι i p (cut_ι hk e)
      · rw [h.dom i (hnew i (by omega) hi)] at e; cases e
    · rw [if_neg hi]; exact e⟩
  refine ⟨hle', hle1, ?_⟩
  have hlt : ∀ {i b C kk}, S i → own[i]? = some kk → isLive kk = true → r.ι i = some (b, C) → b < w.heap.size := fun {i b C kk} hi hk hl e => by
    rcases h.blk i kk hi hk hl with ⟨b', C', e1, e2, _⟩ | ⟨e1, _⟩
    · rw [e] at e1; cases e1; exact brel_lt e2 hl
    · rw [e] at e1; cases e1
  have hlv : ∀ {b}, liveR (aside U ownK) r b → ∃ i kk C, i < ownK.length ∧ i ∉ U ∧ S i ∧ own[i]? = some kk ∧ isLive kk = true ∧ r.ι i = some (b, C) := by
    rintro b ⟨i, kk, C, hi, hk, hlk, e⟩
    obtain ⟨a1, a2⟩ := aside_live hk hlk
    rw [hl] at hi
    obtain ⟨b1, b2⟩ := hin i hi a2
    exact ⟨i, kk, C, hi, a2, b1, by rw [b2]; exact a1, hlk, e⟩
  have hMM : ∀ {b}, liveR (aside U ownK) r b → M b ∨ w0.heap.size ≤ b := by
    intro b hb
    obtain ⟨i, kk, C, _, _, h3, h4, h5, h6⟩ := hlv hb
    rcases h.blk i kk h3 h4 h5 with ⟨b', C', e1, _, e3, _⟩ | ⟨e1, _⟩
    · rw [h6] at e1; cases e1; exact e3
    · rw [h6] at e1; cases e1
  have hsz : w.heap.size ≤ w'.heap.size := k.size
  -- a block that is put aside, or is there already
  have far : ∀ {i}, (S i ∨ (ownK.length ≤ i ∧ i < own'.length)) → (i ∈ U ∨ own'.length ≤ i) → S i := fun {i} hs hi => by
    rcases hs with hs | hs
    · exact hs
    · rcases hi with hi | hi
      · have := hUl i hi; omega
      · omega
  have hfar : ∀ {i}, ¬ (i ∈ U ∨ own'.length ≤ i) → i ∉ U ∧ i < own'.length := fun {i} hi => ⟨fun e => hi (.inl e), by
    apply Classical.byContradiction; intro e; exact hi (.inr (by omega))⟩
  have hsep : ∀ {i b C kk}, (i ∈ U ∨ own'.length ≤ i) → S i → own[i]? = some kk → isLive kk = true → r.ι i = some (b, C) → ¬ liveR (aside U ownK) r b := by
    intro i b C kk hi hSi hk hlk e hb
    obtain ⟨j, kj, Cj, q1, q2, q3, q4, q5, q6⟩ := hlv hb
    have := h.inj i j kk kj b C Cj hSi q3 hk q4 hlk q5 e q6
    subst this
    rcases hi with hi | hi
    · exact q2 hi
    · omega
  have hι : ∀ {i}, (i ∈ U ∨ own'.length ≤ i) → S i → ∀ t, own[i]? = some (.row t []) → r.ι i = none → r'.ι i = none := fun {i} hi hs t hk e => by
    by_cases hi2 : i < own'.length
    · have hU : i ∈ U := by rcases hi with hi | hi; exact hi; omega
      show (if i < own'.length then _ else _) = _
      rw [if_pos hi2]; exact (k.zero i ⟨hUl i hU, e, .inl hU⟩).2
    · show (if i < own'.length then _ else _) = _
      rw [if_neg hi2]; exact e
  have hι1 : ∀ {i p}, i < own'.length → r'.ι i = some p → r1.ι i = some p := fun {i p} hi e => by
    have e : (if i < own'.length then r1.ι i else r.ι i) = some p := e
    rwa [if_pos hi] at e
  constructor
  · exact k.os.trans h.os
  · exact k.tape.trans h.tape
  · exact k.output.trans h.output
  · exact Nat.le_trans h.size hsz
  · intro b h1 h2
    have := h.size
    rw [k.base b (show b < w.heap.size by omega) (fun hm => by rcases hMM hm with hm | hm; exact h2 hm; omega)]
    exact h.base b h1 h2
  · exact k.pers
  · intro id kk hs hk hlk
    by_cases hi : id ∈ U ∨ own'.length ≤ id
    · have hSi := far hs hi
      rw [h1 id hi] at hk
      rcases h.blk id kk hSi hk hlk with ⟨b, C, e1, e2, e3, e4⟩ | ⟨e1, t, e2⟩
      · have hb := hlt hSi hk hlk e1
        refine .inl ⟨b, C, hle'.ι _ _ e1, (e2.heap (k.base b hb (hsep hi hSi hk hlk e1))).mono hle', e3, fun a v e => ?_⟩
        rcases k.up a v e with e | e | e
        · exact e4 a v e
        · intro hab
          have : w.heap.size ≤ a.block := e
          omega
        · exact fun hab => hsep hi hSi hk hlk e1 (hab ▸ e)
      · subst e2; exact .inr ⟨hι hi hSi t hk e1, t, rfl⟩
    · obtain ⟨hi1, hi2⟩ := hfar hi
      rcases k.blk id kk hi2 (by rw [← h2 id hi1 hi2]; exact hk) hlk with ⟨b, C, e1, e2, e3, e4⟩ | ⟨e1, e2⟩
      · refine .inl ⟨b, C, hle1.ι _ _ e1, e2.mono hle1, ?_, e4⟩
        rcases e3 with e3 | e3
        · exact hMM e3
        · have : w.heap.size ≤ b := e3
          have := h.size
          exact .inr (by omega)
      · refine .inr ⟨?_, e2⟩
        show (if id < own'.length then _ else _) = _
        rw [if_pos hi2]; exact e1
  · intro i j ki kj b C C' hi hj hki hkj hli hlj e1 e2
    have key : ∀ {i j ki kj b C C'}, (i ∈ U ∨ own'.length ≤ i) → (S i ∨ (ownK.length ≤ i ∧ i < own'.length)) → (S j ∨ (ownK.length ≤ j ∧ j < own'.length)) → own2[i]? = some ki → own2[j]? = some kj → isLive ki = true → isLive kj = true → r'.ι i = some (b, C) → r'.ι j = some (b, C') → i = j := by
      intro i j ki kj b C C' hiU hi hj hki hkj hli hlj e1 e2
      have hSi := far hi hiU
      rw [h1 i hiU] at hki
      rcases h.blk i ki hSi hki hli with ⟨b1, C1, m1, m2, _⟩ | ⟨m0, t, m1⟩
      · have m1' := hle'.ι _ _ m1
        rw [e1] at m1'; cases m1'
        have hb := brel_lt m2 hli
        by_cases hjU : j ∈ U ∨ own'.length ≤ j
        · have hSj := far hj hjU
          rw [h1 j hjU] at hkj
          rcases h.blk j kj hSj hkj hlj with ⟨b2, C2, n1, _⟩ | ⟨n0, t, n1⟩
          · have n1' := hle'.ι _ _ n1
            rw [e2] at n1'; cases n1'
            exact h.inj i j ki kj b C C' hSi hSj hki hkj hli hlj m1 n1
          · subst n1; rw [hι hjU hSj t hkj n0] at e2; cases e2
        · obtain ⟨hj1, hj2⟩ := hfar hjU
          rcases k.blk j kj hj2 (by rw [← h2 j hj1 hj2]; exact hkj) hlj with ⟨b2, C2, n1, _, n3, _⟩ | ⟨n1, _⟩
          · rw [hι1 hj2 e2] at n1; cases n1
            rcases n3 with n3 | n3
            · exact absurd n3 (hsep hiU hSi hki hli m1)
            · have : w.heap.size ≤ b := n3
              omega
          · rw [hι1 hj2 e2] at n1; cases n1
      · subst m1; rw [hι hiU hSi t hki m0] at e1; cases e1
    by_cases hiU : i ∈ U ∨ own'.length ≤ i
    · exact key hiU hi hj hki hkj hli hlj e1 e2
    · by_cases hjU : j ∈ U ∨ own'.length ≤ j
      · exact (key hjU hj hi hkj hki hlj hli e2 e1).symm
      · obtain ⟨hi1, hi2⟩ := hfar hiU
        obtain ⟨hj1, hj2⟩ := hfar hjU
        exact k.inj i j ki kj b C C' hi2 hj2 (by rw [← h2 i hi1 hi2]; exact hki) (by rw [← h2 j hj1 hj2]; exact hkj) hli hlj (hι1 hi2 e1) (hι1 hj2 e2)
  · intro i hi
    show (if i < own'.length then _ else _) = _
    by_cases hi2 : i < own'.length
    · rw [if_pos hi2]
      have hk : i < ownK.length := by
        apply Classical.byContradiction; intro e
        exact hi (.inr ⟨by omega, hi2⟩)
      have hU : i ∈ U := by
        apply Classical.byContradiction; intro e
        exact hi (.inl (hin i hk e).1)
      exact (k.zero i ⟨hk, h.dom i fun e => hi (.inl e), .inl hU⟩).2
    · rw [if_neg hi2]
      exact h.dom i fun e => hi (.inl e)
  · intro a v e
    rcases k.up a v e with e | e | e
    · exact h.up a v e
    · have : w.heap.size ≤ a.block := e
      have := h.size
      exact .inr (.inl (by omega))
    · exact .inr (hMM e).symm
  · intro i hz
    obtain ⟨z1, z2⟩ := h.zero i hz
    refine ⟨.inl z1, ?_⟩
    show (if i < own'.length then _ else _) = _
    by_cases hi2 : i < own'.length
    · rw [if_pos hi2]
      have hk : i < ownK.length := by
        apply Classical.byContradiction; intro e
        exact hnew i (by omega) hi2 z1
      exact (k.zero i ⟨hk, z2, .inr hz⟩).2
    · rw [if_neg hi2]; exact z2
  · exact k.glob

end

section
variable {P : Program} {own own' : List Blk} {o : Oper} {F : Fns} {D : Nat → Bool} {w0 : Base P} {w : World} {M S : Nat → Prop} {r : Res} {a : Act}

theorem stepL_sound (hF : QuietOK P F.quiet) (hD : DeepOK P F.deep) {ops : Array Oper} {loud : Bool} {st st' : St} (h : (stepOp P F D ops loud st o).run = some st') {A : Nat → Prop} (hR : Rel w0 M (Sn st.own) st.own r w)
    (hc : Closed st.ρ A) (hs : SOn A r st.ρ a.tmps) (hl : ∀ t, t ∈ o.looksAt ops → A t) (hz : a.tmps.size = st.n) :
    Steps1 P ops o a w fun a' w' => ∃ r' u, r.le r' ∧ Rel w0 M (Sn st'.own) st'.own r' w' ∧ a' = a.put o.dst u ∧
      ∀ d, o.dst = some d → d < a.tmps.size ∧ SlotRel r' (a.tmps.setIfInBounds d u) (st'.ρ d) u ∧ ∀ t p v, st'.ρ d = .when t p v → t ∈ o.looksAt ops := by
  have hop : ∀ t, t ∈ opTmps o → A t := fun t ht => hl t (List.mem_append_left _ ht)
  have hin : ∀ {g p tg}, o.guard = some (g, p) → (ops[g]?).bind (·.dst) = some tg → tg ∈ o.looksAt ops := fun {g p tg} e1 e2 => List.mem_append_right _ (by rw [e1]; dsimp only; rw [e2]; simp)
  have hgt : ∀ {g p tg}, o.guard = some (g, p) → (ops[g]?).bind (·.dst) = some tg → A tg := fun {g p tg} e1 e2 => hl tg (hin e1 e2)
  have hskip : ∀ {ρ1 : Env} {v1 : AV} {own1 : List Blk}, own1 = st.own → (lay { st with ρ := ρ1 } o.dst v1 own1).run = some st' → (∀ d, o.dst = some d → SlotRel r (a.tmps.setIfInBounds d Go.undef) v1 Go.undef) → (∀ t p v, v1 = .when t p v → t ∈ o.looksAt ops) → Region.wanted o (yielded ops a.tmps) = false →
      Steps1 P ops o a w fun a' w' => ∃ r' u, r.le r' ∧ Rel w0 M (Sn st'.own) st'.own r' w' ∧ a' = a.put o.dst u ∧ ∀ d, o.dst = some d → d < a.tmps.size ∧ SlotRel r' (a.tmps.setIfInBounds d u) (st'.ρ d) u ∧ ∀ t p v, st'.ρ d = .when t p v → t ∈ o.looksAt ops := by
    intro ρ1 v1 own1 hown h1 h2 h2' hw K Q hK
    rw [hw]
    subst hown
    obtain ⟨k1, k2, k3⟩ := lay_env h1
    refine hK _ _ ⟨r, Go.undef, .refl r, by rw [k1]; exact hR, rfl, fun d hd => ?_⟩
    rcases k3 with ⟨e, _⟩ | ⟨t, e1, e2, e3⟩
    · rw [hd] at e; cases e
    · rw [hd] at e1; cases e1
      exact ⟨by rw [hz]; exact e2, by rw [e3, put_self]; exact h2 d hd, by rw [e3, put_self]; exact h2'⟩
  rcases step_way h with ⟨ρ1, h1, h2, h3⟩ | ⟨ρ1, h1, g, p, tg, x, h2, h3, h4, h5, h6⟩ | ⟨g, p, tg, h2, h3, h4⟩
  · obtain ⟨k1, k2⟩ := h1 r a.tmps A hc hs
    obtain ⟨⟨v, own'⟩, e1, e2⟩ := run_bind h3
    obtain ⟨m1, m2, m3⟩ := lay_env e2
    have hw : Region.wanted o (yielded ops a.tmps) = true := by
      rcases h2 with hg | ⟨g, p, tg, q1, q2, q3⟩
      · simp [Region.wanted, hg]
      · have := q3 r a.tmps A hc (hgt q1 q2) hs
        simp only [Region.wanted, q1]
        rw [yielded_eq q2, this]; simp
    dsimp only at m1
    have hy := doOp_sound (P := P) (F := F) (D := D) (o := o) (own := st.own) (own' := own') (v := v) (a := a) (as := none) hF hD (ρ := ρ1.only A) (by rw [doOp_only k2 none hop]; exact e1) hR k1.only (fun _ _ e => by cases e)
    intro K Q hK
    rw [if_pos hw]
    refine hy K Q ?_
    rintro u w' ⟨r', q1, q2, q3⟩
    refine hK _ _ ⟨r', u, q1, by rw [m1]; exact q2, rfl, fun d hd => ?_⟩
    rcases m3 with ⟨e, _⟩ | ⟨t, f1, f2, f3⟩
    · rw [hd] at e; cases e
    · rw [hd] at f1; cases f1
      exact ⟨by rw [hz]; exact f2, by rw [f3, put_self]; exact .of q3, by rw [f3, put_self]; intro t p v e; subst e; simp only [VRel] at q3⟩
  · have htm := h4 r a.tmps A hc (hgt h2 h3) hs
    refine hskip rfl h6 (fun d hd => .of (by simp [VRel])) (fun _ _ _ e => by cases e) ?_
    simp only [Region.wanted, h2]
    rw [yielded_eq h3, htm]
    cases x with
    | none => rfl
    | some b => simp at h5 ⊢; exact h5
  · obtain ⟨⟨v, own'⟩, e1, e2⟩ := run_bind h4
    split at e2
    · rename_i hcnd
      dsimp only at hcnd e2
      have hsame' : own' = st.own := by
        obtain ⟨blks, rfl⟩ := doOp_own hF e1
        have h0 := hcnd.1
        rw [List.length_append] at h0
        rw [List.eq_nil_of_length_eq_zero (by omega : blks.length = 0), List.append_nil]
      subst hsame'
      by_cases hb : a.tmps.getD tg Go.undef = .bool p
      · have hw : Region.wanted o (yielded ops a.tmps) = true := by
          simp only [Region.wanted, h2]
          rw [yielded_eq h3, hb]; simp
        obtain ⟨m1, m2, m3⟩ := lay_env e2
        have hy := doOp_sound (P := P) (F := F) (D := D) (o := o) (own := st.own) (own' := st.own) (v := v) (a := a) (as := some (tg, p)) hF hD (ρ := st.ρ.only A) (by rw [doOp_only hc _ hop]; exact e1) hR hs.only (fun t q e => by cases e; exact hb)
        intro K Q hK
        rw [if_pos hw]
        refine hy K Q ?_
        rintro u w' ⟨r', q1, q2, q3⟩
        refine hK _ _ ⟨r', u, q1, by rw [m1]; exact q2, rfl, fun d hd => ?_⟩
        rcases m3 with ⟨e, _⟩ | ⟨t, f1, f2, f3⟩
        · rw [hd] at e; cases e
        · rw [hd] at f1; cases f1
          refine ⟨by rw [hz]; exact f2, ?_, by rw [f3, put_self]; intro t q v e; cases e; exact hin h2 h3⟩
          rw [f3, put_self]
          exact .inl ⟨by rw [getD_set_other (fun e => hcnd.2 (by rw [hd, e]))]; exact hb, q3⟩
      · refine hskip (ρ1 := st.ρ) rfl e2 (fun d hd => .inr ⟨by rw [getD_set_other (fun e => hcnd.2 (by rw [hd, e]))]; exact hb, rfl⟩) (fun t q v e => by cases e; exact hin h2 h3) ?_
        simp only [Region.wanted, h2]
        rw [yielded_eq h3]
        split
        · rename_i b e; rw [e] at hb; simp at hb ⊢; exact hb
        · rfl
    · exact (run_fail e2).elim

end
end Go.Proofs.Pen

namespace Go.Proofs.Pen
open Go RowKit

theorem unhide_length {U : List Nat} {own own' : List Blk} (h : own.length ≤ own'.length) : (unhide U own own').length = own'.length := by
  simp [unhide]; omega

theorem unhide_get {U : List Nat} {own own' : List Blk} (h : own.length ≤ own'.length) (i : Nat) : (unhide U own own')[i]? = if i < own.length ∧ i ∈ U then own[i]? else own'[i]? := by
  unfold unhide
  by_cases h1 : i < own.length
  · rw [List.getElem?_append_left (by simpa using h1), List.getElem?_map, List.getElem?_zipIdx, List.getElem?_eq_getElem h1]
    by_cases hU : i ∈ U
    · rw [if_pos ⟨h1, hU⟩]; simp [hU]
    · rw [if_neg (fun e => hU e.2)]
      simp [hU, List.getD_eq_getElem?_getD, List.getElem?_eq_getElem (show i < own'.length by omega)]
  · rw [List.getElem?_append_right (by simp; omega), if_neg (fun e => h1 e.1), List.getElem?_drop]
    simp only [List.length_map, List.length_zipIdx]
    rw [show own.length + (i - own.length) = i by omega]

def AStep (P : Program) (F : Fns) (D : Nat → Bool) (ops : Array Oper) (j : Nat) (o : Oper) (s s' : St) (R : Rec) : Prop :=
  ∃ (U : List Nat) (st' : St), (stepOp P F D ops R.loud { s with own := aside U s.own } o).run = some st' ∧ s.own.length ≤ st'.own.length ∧ s' = { st' with own := unhide U s.own st'.own } ∧
    R.k = j ∧ R.n0 = s.own.length ∧ R.n1 = st'.own.length ∧ (∀ i, i ∈ U → i < s.own.length) ∧ (∀ i, i < s.own.length → i ∉ U → i ∈ R.acc ∧ i ∈ R.touch) ∧ (∀ i, s.own.length ≤ i → i < st'.own.length → i ∈ R.acc) ∧
    (R.loud = true → below s.ρ s.own.length (lookT ops s.ρ o) = true ∧ ownBelow U s.own = true)

section
variable {P : Program} {F : Fns} {D : Nat → Bool} {ops : Array Oper} {sts : Nat → St} {rc : Nat → Rec} {m : Nat} {w0 : Base P} {M L S : Nat → Prop} {r r0 : Res} {a : Act} {w : World} {own : List Blk} {Q : Exit → Act → World → Prop}

theorem hideQ_spec {A : List Nat} {n : Nat} : (∀ i, i ∈ hideQ A n → i < n) ∧ ∀ i, i < n → i ∉ hideQ A n → i ∈ A := by
  unfold hideQ
  refine ⟨fun i h => by simp at h; exact h.1, fun i hi h => ?_⟩
  simp at h
  exact h hi

theorem fin_step {k : Nat} {st : St} {loud : Bool} {A : List Nat} {t : T St} {o : Oper} {x : St × Rec} (h : (finAll k st loud A t).run = some x)
    (ht : ∀ st', t.run = some st' → (stepOp P F D ops loud { st with own := aside (hideQ A st.own.length) st.own } o).run = some st' ∧ (loud = true → below st.ρ st.own.length (lookT ops st.ρ o) = true ∧ ownBelow (hideQ A st.own.length) st.own = true)) : AStep P F D ops k o st x.1 x.2 := by
  unfold finAll at h
  obtain ⟨st', e1, e2⟩ := run_bind h
  split at e2
  · rename_i hb
    cases run_ret e2
    obtain ⟨t1, t2⟩ := ht st' e1
    have hb := Nat.le_of_ble_eq_true hb
    refine ⟨hideQ A st.own.length, st', t1, hb, rfl, rfl, rfl, rfl, hideQ_spec.1, fun i h1 h2 => ?_, fun i h1 h2 => ?_, t2⟩
    · have := hideQ_spec.2 i h1 h2
      exact ⟨List.mem_append_left _ this, this⟩
    · refine List.mem_append_right _ ?_
      rw [List.mem_range'_1]; omega
  · exact (run_fail e2).elim

theorem all_step {lf : Bool} {k : Nat} {st : St} {o : Oper} {x : St × Rec} (h : (stepAll P F D lf ops k st o).run = some x) : AStep P F D ops k o st x.1 x.2 := by
  have hq : ∀ {A : List Nat} {st' : St}, (quietAt P F D ops st A o).run = some st' → (stepOp P F D ops false { st with own := aside (hideQ A st.own.length) st.own } o).run = some st' ∧ (false = true → below st.ρ st.own.length (lookT ops st.ρ o) = true ∧ ownBelow (hideQ A st.own.length) st.own = true) := by
    intro A st' h
    unfold quietAt at h
    dsimp only at h
    split at h
    · exact ⟨force_run h, fun e => by cases e⟩
    · exact ⟨h, fun e => by cases e⟩
  have hlo : ∀ {A : List Nat} {st' : St}, (loudAt P F D ops st A o).run = some st' → (stepOp P F D ops true { st with own := aside (hideQ A st.own.length) st.own } o).run = some st' ∧ (true = true → below st.ρ st.own.length (lookT ops st.ρ o) = true ∧ ownBelow (hideQ A st.own.length) st.own = true) := by
    intro A st' h
    unfold loudAt at h
    dsimp only at h
    split at h
    · rename_i hc
      simp only [Bool.and_eq_true] at hc
      exact ⟨h, fun _ => hc⟩
    · exact (run_fail h).elim
  unfold stepAll at h
  dsimp only at h
  split at h
  · exact fin_step h fun _ e => hlo e
  · split at h
    · split at h
      · exact fin_step h fun _ e => hlo e
      · exact (run_fail h).elim
    · exact fin_step h fun _ e => hq e

theorem all_states {lf : Bool} : ∀ (l : List Oper) (k : Nat) (st : St) (rs : List Rec) (x : St × List Rec), (runAll P F D lf ops l k st rs).run = some x →
    ∃ (sts : Nat → St) (rc : Nat → Rec), sts k = st ∧ sts (k + l.length) = x.1 ∧ (∀ R, R ∈ rs → R ∈ x.2) ∧ ∀ i o, l[i]? = some o → AStep P F D ops (k + i) o (sts (k + i)) (sts (k + i + 1)) (rc (k + i)) ∧ rc (k + i) ∈ x.2
  | [], k, st, rs, x, h => by
    have := run_ret h; subst this
    exact ⟨fun _ => st, fun _ => ⟨0, false, [], [], 0, 0⟩, rfl, rfl, fun _ h => h, fun i o h => by simp at h⟩
  | o :: l, k, st, rs, x, h => by
    unfold runAll at h
    obtain ⟨y, h1, h2⟩ := run_bind h
    obtain ⟨sts, rc, k1, k2, k3, k4⟩ := all_states l (k + 1) y.1 (rs ++ [y.2]) x h2
    refine ⟨fun i => if i = k then st else sts i, fun i => if i = k then y.2 else rc i, if_pos rfl, ?_, fun R hR => k3 R (by simp [hR]), fun i o' hi => ?_⟩
    · dsimp only
      rw [if_neg (by simp only [List.length_cons]; omega)]
      rw [← k2]; congr 1; simp only [List.length_cons]; omega
    · cases i with
      | zero =>
        simp at hi; subst hi
        dsimp only
        simp only [Nat.add_zero, if_pos]
        rw [if_neg (by omega), k1]
        exact ⟨all_step h1, k3 _ (by simp)⟩
      | succ i =>
        have := k4 i o' (by simpa using hi)
        dsimp only
        rw [if_neg (by omega), if_neg (by omega), if_neg (by omega)]
        rw [show k + (i + 1) = k + 1 + i by omega]; exact this

theorem mask_in (hd : Down ops L) {k : Nat} {o : Oper} (hk : ops[k]? = some o) (ha : ∀ e ∈ o.after.toList, Region.binds .any e = true → L e.on) {i : Nat} (h : Nat.testBit ((masks ops.toList []).getD k 0) i = true) : L i := by
  obtain ⟨k1, _, _⟩ := masks_spec hd ops.toList [] (fun i o hi => by rw [Array.getElem?_toList] at hi; simpa using hi) (fun j i _ hb => by simp at hb)
  have hsz := (Array.getElem?_eq_some_iff.1 hk).1
  exact k1 k o (Nat.zero_le _) (by simp only [List.length_nil, Array.length_toList, Nat.zero_add]; exact hsz) hk ha i h

theorem mask_lt {m0 : Nat} (ho : orderly ops m0 = true) {k : Nat} {o : Oper} (hk : ops[k]? = some o) {i : Nat} (h : Nat.testBit ((masks ops.toList []).getD k 0) i = true) : i < k :=
  mask_in (L := fun i => i < k) (fun j o' hj hjo e he hb => by have := ok_back ho hjo e he hb; have hj : j < k := hj; show e.on < k; omega) hk (fun e he hb => ok_back ho hk e he hb) h

structure Steps (P : Program) (F : Fns) (D : Nat → Bool) (ops : Array Oper) (sts : Nat → St) (rc : Nat → Rec) (m : Nat) : Prop where
  qF : QuietOK P F.quiet
  dF : DeepOK P F.deep
  ord : orderly ops m = true
  le : m ≤ ops.size
  st : ∀ k o, k < m → ops[k]? = some o → AStep P F D ops k o (sts k) (sts (k + 1)) (rc k)
  ok : ∀ j k, j < m → k < m → pairOK (masks ops.toList []) (rc j) (rc k) = true

def Tch (sts : Nat → St) (rc : Nat → Rec) (q i : Nat) : Prop := (rc q).loud = true ∧ i < (sts q).own.length ∧ i ∈ (rc q).touch

theorem Steps.at (h : Steps P F D ops sts rc m) {k : Nat} (hk : k < m) : ∃ o, ops[k]? = some o ∧ AStep P F D ops k o (sts k) (sts (k + 1)) (rc k) := by
  have := h.le
  exact ⟨_, Array.getElem?_eq_getElem (by omega), h.st k _ hk (Array.getElem?_eq_getElem (by omega))⟩

theorem Steps.rck (h : Steps P F D ops sts rc m) {k : Nat} (hk : k < m) : (rc k).k = k := by
  obtain ⟨o, _, U, st', _, _, _, e, _⟩ := h.at hk; exact e

theorem Steps.len1 (h : Steps P F D ops sts rc m) {k : Nat} (hk : k < m) : (sts k).own.length ≤ (sts (k + 1)).own.length ∧ (rc k).n0 = (sts k).own.length ∧ (rc k).n1 = (sts (k + 1)).own.length := by
  obtain ⟨o, _, U, st', _, e1, e2, _, e3, e4, _⟩ := h.at hk
  have : (sts (k + 1)).own.length = st'.own.length := by rw [e2]; exact unhide_length e1
  exact ⟨by omega, e3, by omega⟩

theorem Steps.len (h : Steps P F D ops sts rc m) {j : Nat} : ∀ {k : Nat}, j ≤ k → k ≤ m → (sts j).own.length ≤ (sts k).own.length := by
  intro k
  induction k with
  | zero => intro h1 _; rw [Nat.le_zero.1 h1]; exact Nat.le_refl _
  | succ k ih =>
    intro h1 h2
    rcases Nat.lt_or_ge j (k + 1) with h3 | h3
    · have := ih (by omega) (by omega)
      have := (h.len1 (k := k) (by omega)).1
      omega
    · rw [show j = k + 1 by omega]; exact Nat.le_refl _

theorem Steps.stays (h : Steps P F D ops sts rc m) {q i : Nat} (hq : q < m) (hi : i < (sts q).own.length) (ht : ¬ Tch sts rc q i) : (sts (q + 1)).own[i]? = (sts q).own[i]? := by
  obtain ⟨o, _, U, st', e0, e1, e2, _, _, _, e5, e6, e7, _⟩ := h.at hq
  rw [e2]
  dsimp only
  rw [unhide_get e1]
  by_cases hU : i ∈ U
  · rw [if_pos ⟨hi, hU⟩]
  · rw [if_neg (fun e => hU e.2)]
    cases hl : (rc q).loud with
    | true => exact absurd ⟨hl, hi, (e6 i hi hU).2⟩ ht
    | false =>
      rw [hl] at e0
      obtain ⟨⟨blks, e8⟩, _⟩ := step_own h.qF e0
      dsimp only at e8
      rw [e8, List.getElem?_append_left (by rw [aside_length]; exact hi), aside_out hU]

theorem Steps.n (h : Steps P F D ops sts rc m) : ∀ {k : Nat}, k ≤ m → (sts k).n = (sts 0).n := by
  intro k
  induction k with
  | zero => intro _; rfl
  | succ k ih =>
    intro hk
    obtain ⟨o, _, U, st', e0, _, e2, _⟩ := h.at (k := k) (by omega)
    have : st'.n = (sts k).n := by
      rcases step_way e0 with ⟨ρ1, _, _, h3⟩ | ⟨ρ1, _, g, p, tg, x, _, _, _, _, h6⟩ | ⟨g, p, tg, _, _, h4⟩
      · obtain ⟨⟨v, own'⟩, _, e⟩ := run_bind h3; exact (lay_env e).2.1
      · exact (lay_env h6).2.1
      · obtain ⟨⟨v, own'⟩, _, e⟩ := run_bind h4
        split at e
        · exact (lay_env e).2.1
        · exact (run_fail e).elim
    rw [e2]
    dsimp only
    rw [this, ih (by omega)]

theorem Steps.fwd (h : Steps P F D ops sts rc m) {k : Nat} {o : Oper} (hk : k < m) (hko : ops[k]? = some o) {A : Nat → Prop} {tm : Array Value} (hc : Closed (sts k).ρ A) (hs : SOn A r (sts k).ρ tm) (hd : ∀ d, o.dst = some d → ¬ A d) :
    SOn A r (sts (k + 1)).ρ tm ∧ Closed (sts (k + 1)).ρ A := by
  obtain ⟨U, st', e0, _, e2, _⟩ := h.st k o hk hko
  rw [e2]
  exact step_fwd e0 hc hs hd

open Classical in
noncomputable def CL (sts : Nat → St) (rc : Nat → Rec) (L : Nat → Prop) : Nat → Nat → Option Blk
  | 0, i => (sts 0).own[i]?
  | k + 1, i => if (L k ∧ Tch sts rc k i) ∨ ((sts k).own.length ≤ i ∧ i < (sts (k + 1)).own.length) then (sts (k + 1)).own[i]? else CL sts rc L k i

noncomputable def contL (sts : Nat → St) (rc : Nat → Rec) (m : Nat) (L : Nat → Prop) : List Blk := (List.range (sts m).own.length).map fun i => (CL sts rc L m i).getD .dead

theorem CL_at {L' : Nat → Prop} {i : Nat} (e : ∀ k, Tch sts rc k i → (L k ↔ L' k)) : ∀ k, CL sts rc L k i = CL sts rc L' k i
  | 0 => rfl
  | k + 1 => by
    have : (L k ∧ Tch sts rc k i) ↔ (L' k ∧ Tch sts rc k i) := ⟨fun h => ⟨(e k h.2).1 h.1, h.2⟩, fun h => ⟨(e k h.2).2 h.1, h.2⟩⟩
    simp only [CL, CL_at e k]
    by_cases h : (L' k ∧ Tch sts rc k i) ∨ ((sts k).own.length ≤ i ∧ i < (sts (k + 1)).own.length)
    · rw [if_pos h, if_pos (h.imp_left this.2)]
    · rw [if_neg h, if_neg (fun h' => h (h'.imp_left this.1))]

theorem cont_at {L' : Nat → Prop} {i : Nat} (e : ∀ k, Tch sts rc k i → (L k ↔ L' k)) : (contL sts rc m L)[i]? = (contL sts rc m L')[i]? := by
  unfold contL
  rw [List.getElem?_map, List.getElem?_map]
  rcases Nat.lt_or_ge i (sts m).own.length with h | h
  · rw [List.getElem?_range h]
    show some ((CL sts rc L m i).getD .dead) = some ((CL sts rc L' m i).getD .dead)
    rw [CL_at e]
  · rw [List.getElem?_eq_none (by simpa using h)]; rfl

theorem cont_get (h : Steps P F D ops sts rc m) {n i : Nat} (hn : n ≤ m) (hi : i < (sts n).own.length) (hlow : ∀ q, q < n → Tch sts rc q i → L q) (hhigh : ∀ q, n ≤ q → q < m → Tch sts rc q i → ¬ L q) : (contL sts rc m L)[i]? = (sts n).own[i]? := by
  have low : ∀ k, k ≤ n → i < (sts k).own.length → CL sts rc L k i = (sts k).own[i]? := by
    intro k
    induction k with
    | zero => intro _ _; rfl
    | succ k ih =>
      intro hk hik
      unfold CL
      split
      · rfl
      · rename_i hc
        have hk' : i < (sts k).own.length := by
          rcases Nat.lt_or_ge i (sts k).own.length with h1 | h1
          · exact h1
          · exact absurd (.inr ⟨h1, hik⟩) hc
        have ht : ¬ Tch sts rc k i := fun ht => hc (.inl ⟨hlow k (by omega) ht, ht⟩)
        rw [ih (by omega) hk', h.stays (by omega) hk' ht]
  have high : ∀ d, n + d ≤ m → CL sts rc L (n + d) i = (sts n).own[i]? := by
    intro d
    induction d with
    | zero => intro _; exact low n (Nat.le_refl _) hi
    | succ d ih =>
      intro hd
      rw [show n + (d + 1) = (n + d) + 1 by omega]
      unfold CL
      rw [if_neg, ih (by omega)]
      rintro (⟨h1, h2⟩ | ⟨h1, _⟩)
      · exact hhigh (n + d) (by omega) (by omega) h2 h1
      · have := h.len (show n ≤ n + d by omega) (by omega); omega
  have := high (m - n) (by omega)
  rw [show n + (m - n) = m by omega] at this
  have hlt : i < (sts m).own.length := by have := h.len hn (Nat.le_refl m); omega
  unfold contL
  rw [List.getElem?_map, List.getElem?_range hlt]
  show some ((CL sts rc L m i).getD .dead) = _
  rw [this, List.getElem?_eq_getElem hi]
  rfl

structure JA (ops : Array Oper) (sts : Nat → St) (rc : Nat → Rec) (m : Nat) (w0 : Base P) (M : Nat → Prop) (L : Nat → Prop) (r : Res) (a : Act) (w : World) : Prop where
  rel : Rel w0 M (SL sts m L) (contL sts rc m L) r w
  size : a.tmps.size = (sts 0).n
  defers : a.defers = []
  slots : ∀ i, i ≤ m → SOn (AL ops m L i) r (sts i).ρ a.tmps
  closed : ∀ i, i ≤ m → Closed (sts i).ρ (AL ops m L i)

theorem JA.start (h : Steps P F D ops sts rc m) (hw : ∀ s t p v, (sts 0).ρ s ≠ .when t p v) (hR : StRel w0 M (sts 0) r a w) : JA ops sts rc m w0 M (fun _ => False) r a w := by
  have key : ∀ i, i ≤ m → SOn (AL ops m (fun _ => False) i) r (sts i).ρ a.tmps ∧ Closed (sts i).ρ (AL ops m (fun _ => False) i) := by
    intro i
    induction i with
    | zero => intro _; exact ⟨fun s _ => hR.fr s, fun s t p v _ e => absurd e (hw s t p v)⟩
    | succ i ih =>
      intro hi
      obtain ⟨k1, k2⟩ := ih (by omega)
      obtain ⟨o, hio, _⟩ := h.at (k := i) (by omega)
      obtain ⟨q1, q2⟩ := h.fwd (by omega) hio k2 k1 fun d hd hA => (hA i _ (by omega) hio hd).1
      have e : AL ops m (fun _ => False) (i + 1) = AL ops m (fun _ => False) i := by
        funext s; exact propext ⟨fun h k o h1 h2 h3 => (h k o h1 h2 h3).1.elim, fun h k o h1 h2 h3 => (h k o h1 h2 h3).1.elim⟩
      rw [e]; exact ⟨q1, q2⟩
  refine ⟨?_, hR.size, hR.defers, fun i hi => (key i hi).1, fun i hi => (key i hi).2⟩
  have hS : ∀ id, Sn (sts 0).own id ↔ SL sts m (fun _ => False) id := fun id => ⟨.inl, fun h => by
    rcases h with h | ⟨k, h, _⟩
    · exact h
    · exact h.elim⟩
  exact (hR.rel.list fun i hi => cont_get h (Nat.zero_le _) hi (fun q hq => by omega) (fun _ _ _ _ => id)).congr hS

theorem JA.done (h : Steps P F D ops sts rc m) (hL : ∀ i, L i ↔ i < m) (hJ : JA ops sts rc m w0 M L r a w) : StRel w0 M (sts m) r a w := by
  have hr := hJ.rel
  have hS : ∀ id, SL sts m L id ↔ Sn (sts m).own id := fun id => by
    constructor
    · rintro (hs | ⟨k, _, h2, _, h4⟩)
      · have := h.len (Nat.zero_le m) (Nat.le_refl _); show id < _; omega
      · have := h.len (show k + 1 ≤ m by omega) (Nat.le_refl _); show id < _; omega
    · intro hs
      have hs : id < (sts m).own.length := hs
      have key : ∀ k, k ≤ m → id < (sts k).own.length → SL sts m L id := by
        intro k
        induction k with
        | zero => intro _ h; exact .inl h
        | succ k ih =>
          intro hk h
          by_cases h' : id < (sts k).own.length
          · exact ih (by omega) h'
          · exact .inr ⟨k, (hL k).2 (by omega), by omega, by omega, h⟩
      exact key m (Nat.le_refl _) hs
  refine ⟨(hr.congr hS).list fun i hi => ?_, fun s => hJ.slots m (Nat.le_refl _) s fun k o h1 _ _ => ⟨(hL k).2 h1, h1⟩, by rw [hJ.size]; exact (h.n (Nat.le_refl _)).symm, hJ.defers⟩
  exact (cont_get h (Nat.le_refl _) hi (fun q hq _ => (hL q).2 hq) (fun q h1 h2 => by omega)).symm

theorem JA.next (h : Steps P F D ops sts rc m) (hJ : JA ops sts rc m w0 M L r a w) {j : Nat} {o : Oper} (hj : ops[j]? = some o) (hjm : j < m) (hLj : ¬ L j) (hAj : ∀ t, t ∈ o.looksAt ops → AL ops m L j t) {r' : Res} (k1 : r.le r') {u : Value}
    (k4 : ∀ d, o.dst = some d → d < a.tmps.size ∧ SlotRel r' (a.tmps.setIfInBounds d u) ((sts (j + 1)).ρ d) u ∧ ∀ t p v, (sts (j + 1)).ρ d = .when t p v → t ∈ o.looksAt ops) :
    ∀ i, i ≤ m → SOn (AL ops m (fun i => i = j ∨ L i) i) r' (sts i).ρ (a.put o.dst u).tmps ∧ Closed (sts i).ρ (AL ops m (fun i => i = j ∨ L i) i) := by
  have hdA : ∀ i, i ≤ j ∨ ¬ L j → ∀ t, o.dst = some t → ¬ AL ops m L i t := fun i _ t ht hA => hLj (hA j o hjm hj ht).1
  have hold : ∀ i, i ≤ m → SOn (AL ops m L i) r' (sts i).ρ (a.put o.dst u).tmps := fun i hi => (hJ.slots i hi).put k1 (hJ.closed i hi) (hdA i (.inr hLj))
  have hlow : ∀ i, i ≤ j → AL ops m (fun i => i = j ∨ L i) i = AL ops m L i := fun i hi => by
    funext s
    refine propext ⟨fun hA k o' h1 h2 h3 => ?_, fun hA => hA.mono (fun _ => .inr) (Nat.le_refl _)⟩
    obtain ⟨q1, q2⟩ := hA k o' h1 h2 h3
    rcases q1 with q1 | q1
    · omega
    · exact ⟨q1, q2⟩
  intro i
  induction i with
  | zero => intro hi; rw [hlow 0 (Nat.zero_le _)]; exact ⟨hold 0 hi, hJ.closed 0 hi⟩
  | succ i ih =>
    intro hi
    rcases Nat.lt_or_ge i j with hij | hij
    · rw [hlow (i + 1) (by omega)]; exact ⟨hold _ hi, hJ.closed _ hi⟩
    · obtain ⟨i1, i2⟩ := ih (by omega)
      have hisz : i < ops.size := by have := h.le; omega
      have hio := Array.getElem?_eq_getElem hisz
      have split : ∀ s, AL ops m (fun i => i = j ∨ L i) (i + 1) s → AL ops m (fun i => i = j ∨ L i) i s ∨ ((ops[i]'hisz).dst = some s ∧ (i = j ∨ L i)) := fun s hA => by
        by_cases hd : (ops[i]'hisz).dst = some s
        · exact .inr ⟨hd, (hA i _ (by omega) hio hd).1⟩
        · refine .inl fun k o' h1 h2 h3 => ?_
          obtain ⟨q1, q2⟩ := hA k o' h1 h2 h3
          refine ⟨q1, ?_⟩
          rcases Nat.lt_or_ge k i with q | q
          · exact q
          · have : k = i := by omega
            subst this
            rw [hio] at h2; cases h2
            exact absurd h3 hd
      obtain ⟨f1, f2⟩ := h.fwd (by omega) hio i2 i1 fun d hd hA => by
        have := (hA i _ (by omega) hio hd).2; omega
      have hself : ∀ s, (ops[i]'hisz).dst = some s → (i = j ∨ L i) → SlotRel r' (a.put o.dst u).tmps ((sts (i + 1)).ρ s) ((a.put o.dst u).tmps.getD s Go.undef) ∧ ∀ t p v, (sts (i + 1)).ρ s = .when t p v → AL ops m (fun i => i = j ∨ L i) (i + 1) t := by
        intro s hd hL
        by_cases hij' : i = j
        · subst hij'
          rw [hio] at hj; cases hj
          obtain ⟨q1, q2, q3⟩ := k4 s hd
          refine ⟨?_, fun t p v e => (hAj t (q3 t p v e)).mono (fun _ => .inr) (by omega)⟩
          rw [act_put, hd]
          dsimp only
          rw [getD_set_self q1]; exact q2
        · have hLi : L i := by rcases hL with hL | hL; exact absurd hL hij'; exact hL
          have hA : AL ops m L (i + 1) s := fun k o' h1 h2 h3 => by
            have := ok_once h.ord h1 (by omega) h2 hio h3 hd
            subst this; exact ⟨hLi, by omega⟩
          exact ⟨hold (i + 1) hi s hA, fun t p v e => (hJ.closed (i + 1) hi s t p v hA e).mono (fun _ => .inr) (Nat.le_refl _)⟩
      constructor
      · intro s hA
        rcases split s hA with hA | ⟨hd, hL⟩
        · exact f1 s hA
        · exact (hself s hd hL).1
      · intro s t p v hA e
        rcases split s hA with hA | ⟨hd, hL⟩
        · exact (f2 s t p v hA e).mono (fun _ h => h) (by omega)
        · exact (hself s hd hL).2 t p v e

theorem Steps.pair (h : Steps P F D ops sts rc m) {q j : Nat} (hq : q < m) (hj : j < m) (hne : q ≠ j) (hl : (rc q).loud = true) :
    Nat.testBit ((masks ops.toList []).getD j 0) q = true ∨ Nat.testBit ((masks ops.toList []).getD q 0) j = true ∨
    ((rc j).loud = false ∧ ∀ i, i ∈ (rc j).acc → (sts q).own.length ≤ i ∨ i ∉ (rc q).touch) := by
  have := h.ok q j hq hj
  have e2 := h.len1 hq
  simp only [pairOK, h.rck hq, h.rck hj, hl, Bool.not_true, Bool.false_or, Bool.or_eq_true, ordered, Bool.and_eq_true, Bool.not_eq_true'] at this
  rcases this with (h1 | h1) | h1
  · exact absurd (Nat.eq_of_beq_eq_true h1) hne
  · rcases h1 with h1 | h1
    · exact .inl h1
    · exact .inr (.inl h1)
  · refine .inr (.inr ⟨h1.1, fun i hi => ?_⟩)
    have := List.all_eq_true.1 h1.2 i hi
    simp only [Bool.or_eq_true, Bool.not_eq_true'] at this
    rcases this with this | this
    · have := Nat.le_of_ble_eq_true this; left; omega
    · right; simpa using this

theorem Steps.newS (h : Steps P F D ops sts rc m) {j : Nat} (hjm : j < m) (hLj : ¬ L j) : ∀ i, (sts j).own.length ≤ i → i < (sts (j + 1)).own.length → ¬ SL sts m L i := by
  rintro i h1 h2 (h3 | ⟨k, h3, h4, h5, h6⟩)
  · have := h.len (Nat.zero_le j) (by omega); omega
  · have hkj : k ≠ j := fun e => hLj (e ▸ h3)
    rcases Nat.lt_or_ge k j with h7 | h7
    · have := h.len (show k + 1 ≤ j by omega) (by omega); omega
    · have := h.len (show j + 1 ≤ k by omega) (by omega); omega

theorem SL_next {j : Nat} (hjm : j < m) (i : Nat) : SL sts m (fun i => i = j ∨ L i) i ↔ SL sts m L i ∨ ((sts j).own.length ≤ i ∧ i < (sts (j + 1)).own.length) := by
  constructor
  · rintro (h1 | ⟨k, rfl | h1, h2, h3⟩)
    · exact .inl (.inl h1)
    · exact .inr h3
    · exact .inl (.inr ⟨k, h1, h2, h3⟩)
  · rintro ((h1 | ⟨k, h1, h2⟩) | h1)
    · exact .inl h1
    · exact .inr ⟨k, .inr h1, h2⟩
    · exact .inr ⟨j, .inl rfl, hjm, h1⟩

theorem JA.quiet (h : Steps P F D ops sts rc m) (hdn : Down ops L) (_hLm : ∀ k, L k → k < m) (hJ : JA ops sts rc m w0 M L r a w) {j : Nat} {o : Oper} (hj : ops[j]? = some o) (hjm : j < m) (hLj : ¬ L j)
    (hLa : ∀ e ∈ o.after.toList, Region.binds .any e = true → L e.on) (hnl : (rc j).loud = false) :
    Steps1 P ops o a w fun a' w' => ∃ r', r.le r' ∧ JA ops sts rc m w0 M (fun i => i = j ∨ L i) r' a' w' := by
  have hAj : ∀ t, t ∈ o.looksAt ops → AL ops m L j t := fun t ht k o' h1 h2 h3 => by
    obtain ⟨e, k1, k2, k3⟩ := ok_reads h.ord hj hjm ht h1 h2 h3
    subst k3
    exact ⟨hLa e k1 k2, ok_back h.ord hj e k1 k2⟩
  obtain ⟨U, st', s0, s1, s2, _, _, _, s5, s6, s7, _⟩ := h.st j o hjm hj
  rw [hnl] at s0
  obtain ⟨⟨blks, hown⟩, hn'⟩ := step_own h.qF s0
  dsimp only at hown hn'
  have hl' : st'.own.length = (sts (j + 1)).own.length := by rw [s2]; exact (unhide_length s1).symm
  have hl0 : (aside U (sts j).own).length = (sts j).own.length := aside_length _ _
  -- a block that it looks at, or makes, holds what the text's order tells
  have hcont : ∀ i, i < (sts (j + 1)).own.length → i ∉ U → (contL sts rc m L)[i]? = (sts (j + 1)).own[i]? := by
    intro i hi hU
    have hord : ∀ q, q < m → Tch sts rc q i → q ≠ j ∧ (Nat.testBit ((masks ops.toList []).getD j 0) q = true ∨ Nat.testBit ((masks ops.toList []).getD q 0) j = true) := by
      intro q hq ht
      have hne : q ≠ j := fun e => by subst e; have := ht.1; rw [hnl] at this; cases this
      refine ⟨hne, ?_⟩
      rcases h.pair hq hjm hne ht.1 with h1 | h1 | ⟨_, h3⟩
      · exact .inl h1
      · exact .inr h1
      · have hacc : i ∈ (rc j).acc := by
          rcases Nat.lt_or_ge i (sts j).own.length with hij | hij
          · exact (s6 i hij hU).1
          · exact s7 i hij (by omega)
        rcases h3 i hacc with h4 | h4
        · exact absurd ht.2.1 (by omega)
        · exact absurd ht.2.2 h4
    refine cont_get h (by omega) hi (fun q hq ht => ?_) (fun q h1 h2 ht hLq => ?_)
    · obtain ⟨hne, h3 | h3⟩ := hord q (by omega) ht
      · exact mask_in hdn hj hLa h3
      · have hqo := Array.getElem?_eq_getElem (show q < ops.size by have := h.le; omega)
        have := mask_lt h.ord hqo h3; omega
    · obtain ⟨hne, h3 | h3⟩ := hord q h2 ht
      · have := mask_lt h.ord hj h3; omega
      · have hqo := Array.getElem?_eq_getElem (show q < ops.size by have := h.le; omega)
        exact hLj (mask_in hdn hqo (hdn q _ hLq hqo) h3)
  have hag : Agree st'.own (aside U (contL sts rc m L)) := by
    intro i hi
    by_cases hU : i ∈ U
    · have hi2 := s5 i hU
      rw [hown, List.getElem?_append_left (by rw [hl0]; exact hi2), aside_get, aside_get]
      have hi3 : i < (contL sts rc m L).length := by simp only [contL, List.length_map, List.length_range]; have := h.len (show j ≤ m by omega) (Nat.le_refl _); omega
      rw [List.getElem?_eq_getElem hi2, List.getElem?_eq_getElem hi3]
      simp [hU]
    · rw [aside_out hU, hcont i (by omega) hU, s2]
      dsimp only
      rw [unhide_get s1, if_neg (fun e => hU e.2)]
  have hnew := h.newS (L := L) hjm hLj
  have hs := stepQ_sound (P := P) (D := D) (w := w) (a := a) (r := r) h.qF s0 (hJ.rel.partQ U) hag (fun i h1 h2 h3 => hnew i (by simpa [aside_length] using h1) (by omega) h3.1) (hJ.closed j (by omega)) (hJ.slots j (by omega)) hAj (by rw [hJ.size]; exact (h.n (by omega)).symm)
  intro K Q hK
  refine hs K Q ?_
  rintro a' w' ⟨r', u, k1, k2', rfl, k4'⟩
  have k4 : ∀ d, o.dst = some d → d < a.tmps.size ∧ SlotRel r' (a.tmps.setIfInBounds d u) ((sts (j + 1)).ρ d) u ∧ ∀ t p v, (sts (j + 1)).ρ d = .when t p v → t ∈ o.looksAt ops := by
    rw [s2]; exact k4'
  have key := hJ.next h hj hjm hLj hAj k1 k4
  refine hK _ _ ⟨r', k1, ⟨?_, by rw [put_size]; exact hJ.size, by rw [put_defers]; exact hJ.defers, fun i hi => (key i hi).1, fun i hi => (key i hi).2⟩⟩
  have hcc : contL sts rc m (fun i => i = j ∨ L i) = contL sts rc m L := by
    apply List.ext_getElem?
    intro i
    exact cont_at fun k ht => ⟨fun e => by rcases e with rfl | e; exact absurd ht.1 (by rw [hnl]; simp); exact e, .inr⟩
  rw [hcc]
  have hnU : ∀ i, (sts j).own.length ≤ i → i ∉ U := fun i h1 hU => by have := s5 i hU; omega
  refine (hJ.rel.backG (U := U) (S2 := SL sts m fun i => i = j ∨ L i) (own2 := contL sts rc m L) (fun i hi => ?_) (fun i hi => ?_) (fun i hU hi => ?_) (fun i hU e hi => ?_) (fun i hi => (SL_next hjm i).2 (.inl hi)) k1 k2' (fun _ _ => rfl) (fun i hU _ => (aside_out hU).symm))
  · rw [SL_next hjm] at hi
    dsimp only
    rw [hl0, hl']
    rcases hi with hi | hi
    · by_cases hz : i ∈ U ∧ r.ι i = none
      · refine .inr ⟨hi, hz.1, hz.2, ?_⟩
        rintro (h1 | h1)
        · exact h1.2 hz
        · exact hnU i h1.1 hz.1
      · exact .inl (.inl ⟨hi, hz⟩)
    · exact .inl (.inr hi)
  · rw [SL_next hjm]
    dsimp only at hi
    rw [hl0, hl'] at hi
    rcases hi with hi | hi
    · exact .inl hi.1
    · exact .inr hi
  · dsimp only at hi
    rw [hl0, hl'] at hi
    rcases hi with hi | hi
    · exact hi.1
    · exact absurd hU (hnU i hi.1)
  · dsimp only at hi
    rw [hl0, hl'] at hi
    rcases hi with hi | hi
    · exact absurd ⟨hU, e⟩ hi.2
    · exact absurd hU (hnU i hi.1)

theorem mem_tests {ρ : Env} {l : List Nat} {t : Nat} : t ∈ testsOf ρ l ↔ ∃ s p v, s ∈ l ∧ ρ s = .when t p v := by
  unfold testsOf
  rw [List.mem_filterMap]
  constructor
  · rintro ⟨s, h1, h2⟩
    split at h2
    · rename_i t' p v he
      cases h2
      exact ⟨s, p, v, h1, he⟩
    · cases h2
  · rintro ⟨s, p, v, h1, h2⟩
    exact ⟨s, h1, by rw [h2]⟩

theorem JA.loud (h : Steps P F D ops sts rc m) (hdn : Down ops L) (_hLm : ∀ k, L k → k < m) (hJ : JA ops sts rc m w0 M L r a w) {j : Nat} {o : Oper} (hj : ops[j]? = some o) (hjm : j < m) (hLj : ¬ L j)
    (hLa : ∀ e ∈ o.after.toList, Region.binds .any e = true → L e.on) (hnl : (rc j).loud = true) :
    Steps1 P ops o a w fun a' w' => ∃ r', r.le r' ∧ JA ops sts rc m w0 M (fun i => i = j ∨ L i) r' a' w' := by
  have hAj : ∀ t, t ∈ o.looksAt ops → AL ops m L j t := fun t ht k o' h1 h2 h3 => by
    obtain ⟨e, k1, k2, k3⟩ := ok_reads h.ord hj hjm ht h1 h2 h3
    subst k3
    exact ⟨hLa e k1 k2, ok_back h.ord hj e k1 k2⟩
  obtain ⟨U, st', s0, s1, s2, _, _, _, s5, s6, _, s8⟩ := h.st j o hjm hj
  obtain ⟨s8, s9⟩ := s8 hnl
  have hl' : st'.own.length = (sts (j + 1)).own.length := by rw [s2]; exact (unhide_length s1).symm
  have hl0 : (aside U (sts j).own).length = (sts j).own.length := aside_length _ _
  have hop : ∀ q, q < m → ∃ o', ops[q]? = some o' := fun q hq => ⟨_, Array.getElem?_eq_getElem (show q < ops.size by have := h.le; omega)⟩
  have hmask : ∀ q, q < m → q ≠ j → (Nat.testBit ((masks ops.toList []).getD q 0) j = true ∨ Nat.testBit ((masks ops.toList []).getD j 0) q = true) → (L q ↔ q < j) := by
    intro q hq hne h1
    obtain ⟨oq, hqo⟩ := hop q hq
    rcases h1 with h1 | h1
    · have h2 := mask_lt h.ord hqo h1
      exact ⟨fun hL => absurd (mask_in hdn hqo (hdn q _ hL hqo) h1) hLj, fun h3 => by omega⟩
    · exact ⟨fun _ => mask_lt h.ord hj h1, fun _ => mask_in hdn hj hLa h1⟩
  -- of all that write, those ahead of it have run, and no others
  have hord : ∀ q, q < m → q ≠ j → (rc q).loud = true → (L q ↔ q < j) := by
    intro q hq hne hmk
    refine hmask q hq hne ?_
    rcases h.pair hjm hq (fun e => hne e.symm) hnl with h1 | h1 | ⟨h1, _⟩
    · exact .inl h1
    · exact .inr h1
    · rw [h1] at hmk; cases hmk
  have hcont : ∀ i, i < (sts j).own.length → (contL sts rc m L)[i]? = (sts j).own[i]? := fun i hi =>
    cont_get h (by omega) hi (fun q hq ht => (hord q (by omega) (by omega) ht.1).2 hq) (fun q h1 h2 ht hLq => by
      by_cases e : q = j
      · subst e; exact hLj hLq
      · have := (hord q h2 e ht.1).1 hLq; omega)
  have hcont' : ∀ i, i < (sts (j + 1)).own.length → (contL sts rc m (fun i => i = j ∨ L i))[i]? = (sts (j + 1)).own[i]? := fun i hi =>
    cont_get h (by omega) hi (fun q hq ht => by
      by_cases e : q = j
      · exact .inl e
      · exact .inr ((hord q (by omega) e ht.1).2 (by omega))) (fun q h1 h2 ht hLq => by
      rcases hLq with e | hLq
      · omega
      · have := (hord q h2 (by omega) ht.1).1 hLq; omega)
  have hin : ∀ i, i < (sts j).own.length → i ∉ U → SL sts m L i ∧ (contL sts rc m L)[i]? = (sts j).own[i]? := by
    intro i hi hU
    refine ⟨?_, hcont i hi⟩
    have key : ∀ k, k ≤ j → i < (sts k).own.length → SL sts m L i := by
      intro k
      induction k with
      | zero => intro _ h; exact .inl h
      | succ k ih =>
        intro hk h1
        by_cases h' : i < (sts k).own.length
        · exact ih (by omega) h'
        · refine .inr ⟨k, ?_, by omega, by omega, h1⟩
          refine (hmask k (by omega) (by omega) ?_).2 (by omega)
          rcases h.pair hjm (show k < m by omega) (by omega) hnl with h2 | h2 | ⟨_, h3⟩
          · exact .inl h2
          · exact .inr h2
          · obtain ⟨ok, hko⟩ := hop k (by omega)
            obtain ⟨U', stk, _, t1, t2, _, _, _, _, _, t7, _⟩ := h.st k ok (by omega) hko
            have : (sts (k + 1)).own.length = stk.own.length := by rw [t2]; exact unhide_length t1
            rcases h3 i (t7 i (by omega) (by omega)) with h4 | h4
            · omega
            · exact absurd (s6 i hi hU).2 h4
    exact key j (Nat.le_refl _) hi
  have hids : ∀ i cs, i ∉ U → (sts j).own[i]? = some (.cells cs) → ∀ k, k ∈ AV.idsL cs → k < (sts j).own.length := by
    intro i cs hU hk k hkc
    have hi := (List.getElem?_eq_some_iff.1 hk).1
    have := List.all_eq_true.1 s9 i (List.mem_range.2 hi)
    simp only [Bool.or_eq_true] at this
    rcases this with this | this
    · exact absurd (by simpa using this) hU
    · have hr : rowAt (sts j).own i = .cells cs := by unfold rowAt; rw [List.getD_eq_getElem?_getD, hk]; rfl
      rw [hr] at this
      have := List.all_eq_true.1 this k hkc
      rwa [Nat.blt_eq] at this
  have hR1 := hJ.rel.partR hin hids
  -- what it looks at
  have hT0 : ∀ t, t ∈ lookT ops (sts j).ρ o → AL ops m L j t := by
    intro t ht
    have hcl := hJ.closed j (by omega)
    have t1 : ∀ t, t ∈ testsOf (sts j).ρ (o.looksAt ops) → AL ops m L j t := fun t ht => by
      obtain ⟨s, p, v, q1, q2⟩ := mem_tests.1 ht
      exact hcl s t p v (hAj s q1) q2
    unfold lookT at ht
    dsimp only at ht
    rw [List.mem_append, List.mem_append] at ht
    rcases ht with (ht | ht) | ht
    · exact hAj t ht
    · exact t1 t ht
    · obtain ⟨s, p, v, q1, q2⟩ := mem_tests.1 ht
      exact hcl s t p v (t1 s q1) q2
  have hTb : ∀ t, t ∈ lookT ops (sts j).ρ o → (∀ t' p v, (sts j).ρ t = .when t' p v → t' ∈ lookT ops (sts j).ρ o) ∧ ∀ i, i ∈ ((sts j).ρ t).ids → i < (sts j).own.length := by
    intro t ht
    have := List.all_eq_true.1 s8 t ht
    simp only [Bool.and_eq_true] at this
    refine ⟨fun t' p v e => ?_, fun i hi => ?_⟩
    · have := this.1
      rw [e] at this
      simpa using this
    · have := List.all_eq_true.1 this.2 i hi
      rwa [Nat.blt_eq] at this
  have hs := stepL_sound (P := P) (F := F) (D := D) (w := w) (a := a) (r := r.cut (sts j).own.length) (A := fun t => t ∈ lookT ops (sts j).ρ o) h.qF h.dF s0 hR1 (fun s t p v hA e => (hTb s hA).1 t p v e)
    (fun s hA => cut_slot (hTb s hA).2 (hJ.slots j (by omega) s (hT0 s hA))) (fun t ht => by unfold lookT; exact List.mem_append_left _ (List.mem_append_left _ ht)) (by rw [hJ.size]; exact (h.n (by omega)).symm)
  intro K Q hK
  refine hs K Q ?_
  rintro a' w' ⟨r1, u, k1, k2, rfl, k4⟩
  have hgrow := h.len1 hjm
  have e1 : ∀ i, (i ∈ U ∨ st'.own.length ≤ i) → (contL sts rc m (fun i => i = j ∨ L i))[i]? = (contL sts rc m L)[i]? := by
    intro i hi
    rcases hi with hi | hi
    · have hi' := s5 i hi
      rw [hcont i hi', hcont' i (by omega), s2]
      dsimp only
      rw [unhide_get s1, if_pos ⟨hi', hi⟩]
    · exact cont_at fun k ht => ⟨fun e => by
        rcases e with rfl | e
        · have := ht.2.1; omega
        · exact e, .inr⟩
  have e2 : ∀ i, i ∉ U → i < st'.own.length → (contL sts rc m (fun i => i = j ∨ L i))[i]? = st'.own[i]? := by
    intro i hU hi
    rw [hcont' i (by omega), s2]
    dsimp only
    rw [unhide_get s1, if_neg (fun e => hU e.2)]
  obtain ⟨k5, k6, k7⟩ := hJ.rel.backR hin s5 s1 (fun i h1 h2 => h.newS hjm hLj i h1 (by omega)) k1 k2 e1 e2
  have k4' : ∀ d, o.dst = some d → d < a.tmps.size ∧ SlotRel { H := r1.H, ι := fun i => if i < st'.own.length then r1.ι i else r.ι i } (a.tmps.setIfInBounds d u) ((sts (j + 1)).ρ d) u ∧ ∀ t p v, (sts (j + 1)).ρ d = .when t p v → t ∈ o.looksAt ops := by
    intro d hd
    obtain ⟨q1, q2, q3⟩ := k4 d hd
    rw [s2]
    exact ⟨q1, q2.mono k6, q3⟩
  have key := hJ.next h hj hjm hLj hAj k5 k4'
  refine hK _ _ ⟨_, k5, ⟨?_, by rw [put_size]; exact hJ.size, by rw [put_defers]; exact hJ.defers, fun i hi => (key i hi).1, fun i hi => (key i hi).2⟩⟩
  exact k7.congr fun i => by rw [SL_next hjm]; rw [hl']

theorem drawB_sound {lf : Bool} (hF : QuietOK P F.quiet) (hD : DeepOK P F.deep) {st st' : St} (hw : ∀ s t p v, st.ρ s ≠ .when t p v)
    (h : (drawB P F D lf ops st).run = some st') (hR : StRel w0 M st r a w) (hQ : ∀ a' w', (∃ r', r.le r' ∧ StRel w0 M st' r' a' w') → Q .normal a' w') :
    wpAny P .any ops Q ops.size (Array.replicate ops.size false) a { w with drawn := w.drawn + 1 } := by
  unfold drawB at h
  dsimp only at h
  split at h
  case isFalse => exact (run_fail h).elim
  rename_i hd
  simp only [drawOK, Bool.and_eq_true] at hd
  obtain ⟨ho, hf⟩ := hd
  obtain ⟨⟨st1, rs⟩, h1, h⟩ := run_bind h
  split at h
  case isFalse => exact (run_fail h).elim
  rename_i hrs
  dsimp only at hrs h
  obtain ⟨sts, rc, s0, s1, _, s2⟩ := all_states _ _ _ _ _ h1
  obtain ⟨sts1, t0, t1, t2⟩ := walk_states _ _ _ _ h
  have hmn : freeTo ops ≤ ops.size := by unfold freeTo; omega
  simp only [Nat.zero_add, List.length_take, Array.length_toList, Nat.min_eq_left hmn] at s1 s2
  simp only [List.length_drop, Array.length_toList, Nat.add_sub_cancel' hmn] at t1
  have hop : ∀ k o, k < freeTo ops → ops[k]? = some o → (ops.toList.take (freeTo ops))[k]? = some o := fun k o hk hko => by rw [List.getElem?_take_of_lt hk, Array.getElem?_toList]; exact hko
  have hmem : ∀ k, k < freeTo ops → rc k ∈ rs := fun k hk => (s2 k _ (hop k _ hk (Array.getElem?_eq_getElem (by omega)))).2
  have hS : Steps P F D ops sts rc (freeTo ops) := ⟨hF, hD, ho, hmn, fun k o hk hko => (s2 k o (hop k o hk hko)).1, fun j k hj hk => List.all_eq_true.1 (List.all_eq_true.1 hrs _ (hmem j hj)) _ (hmem k hk)⟩
  have hRd : StRel w0 M (sts 0) r a { w with drawn := w.drawn + 1 } := by
    rw [s0]; exact ⟨hR.rel.same ⟨rfl, rfl, rfl, ⟨rfl, Nat.le_succ _⟩⟩, hR.fr, hR.size, hR.defers⟩
  refine (draw_all (P := P) (F := F) (D := D) (m := freeTo ops) (w0 := w0) (M := M) (fun L r a w => JA ops sts rc (freeTo ops) w0 M L r a w) (st1 := sts1) (r0 := r) hF hD ho hf hmn ?_ ?_ ?_ (fun a' w' h => hQ a' w' (by rw [t1] at h; exact h)) ops.size _ r a _ (by simp) ?_ ?_ ?_ (.refl r) ?_)
  · intro L r a w j o hdn hLm hJ hj hjm hLj hLa
    cases hx : (rc j).loud with
    | false => exact hJ.quiet hS hdn hLm hj hjm hLj hLa hx
    | true => exact hJ.loud hS hdn hLm hj hjm hLj hLa hx
  · intro L r a w hL hJ
    have := hJ.done hS hL
    rw [t0]; rw [s1] at this; exact this
  · intro k o hk hko
    have := t2 (k - freeTo ops) o (by rw [List.getElem?_drop, show freeTo ops + (k - freeTo ops) = k by omega, Array.getElem?_toList]; exact hko)
    rw [show freeTo ops + (k - freeTo ops) = k by omega] at this
    exact this
  · intro i hi
    unfold On at hi
    simp [Array.getD_eq_getD_getElem?, Array.getElem?_replicate] at hi
    split at hi <;> simp at hi
  · intro i o hi
    unfold On at hi
    simp [Array.getD_eq_getD_getElem?, Array.getElem?_replicate] at hi
    split at hi <;> simp at hi
  · unfold unl
    have := List.countP_le_length (p := fun i => !(Array.replicate ops.size false).getD i false) (l := List.range ops.size)
    rwa [List.length_range] at this
  · have he : On (Array.replicate ops.size false) = fun _ => False := by
      funext i
      unfold On
      refine propext ⟨fun hi => ?_, False.elim⟩
      simp [Array.getD_eq_getD_getElem?, Array.getElem?_replicate] at hi
      split at hi <;> simp at hi
    rw [he]
    exact JA.start hS (by rw [s0]; exact hw) hRd

theorem all_sound (hF : QuietOK P F.quiet) (hD : DeepOK P F.deep) {st st' : St} (hw : ∀ s t p v, st.ρ s ≠ .when t p v)
    (h : (drawAll P F D ops st).run = some st') (hR : StRel w0 M st r a w) (hQ : ∀ a' w', (∃ r', r.le r' ∧ StRel w0 M st' r' a' w') → Q .normal a' w') :
    wpAny P .any ops Q ops.size (Array.replicate ops.size false) a { w with drawn := w.drawn + 1 } := by
  unfold drawAll at h
  split at h
  · split at h
    · exact drawB_sound hF hD hw h hR hQ
    · exact drawB_sound hF hD hw (force_run h) hR hQ
  · exact drawB_sound hF hD hw h hR hQ

theorem any_sound (hF : QuietOK P F.quiet) (hD : DeepOK P F.deep) {st st' : St} (hw : ∀ s t p v, st.ρ s ≠ .when t p v)
    (h : (drawAny P F D ops st).run = some st') (hR : StRel w0 M st r a w) (hQ : ∀ a' w', (∃ r', r.le r' ∧ StRel w0 M st' r' a' w') → Q .normal a' w') :
    wpAny P .any ops Q ops.size (Array.replicate ops.size false) a { w with drawn := w.drawn + 1 } := by
  unfold drawAny at h
  split at h
  · exact all_sound hF hD hw h hR hQ
  · exact draw_sound' hF hD hw h hR hQ

end
end Go.Proofs.Pen

namespace Go.Proofs.Pen
open Go RowKit

def Kept (ds : List Nat) (a a' : Act) : Prop := ∀ s, s ∉ ds → a'.tmps.getD s Go.undef = a.tmps.getD s Go.undef
theorem Kept.refl (ds : List Nat) (a : Act) : Kept ds a a := fun _ _ => rfl
theorem Kept.trans {ds : List Nat} {a b c : Act} (h : Kept ds a b) (k : Kept ds b c) : Kept ds a c := fun s hs => (k s hs).trans (h s hs)
theorem Kept.mono {ds es : List Nat} {a b : Act} (h : Kept ds a b) (k : ∀ s, s ∈ ds → s ∈ es) : Kept es a b := fun s hs => h s fun e => hs (k s e)

theorem kept_put {ds : List Nat} {a : Act} {d : Option Nat} {u : Value} (h : ∀ t, d = some t → t ∈ ds) : Kept ds a (a.put d u) := fun s hs => by
  rw [act_put]
  cases d with
  | none => rfl
  | some t => exact getD_set_other fun e => hs (by rw [e]; exact h t rfl)

def dstsR (ops : List Oper) : List Nat := ops.filterMap (·.dst)
def dstsC : Code → List Nat
  | .seq x y => dstsC x ++ dstsC y
  | .cond _ x y => dstsC x ++ dstsC y
  | .block _ b => dstsC b
  | .loop b => dstsC b
  | .scope b => dstsC b
  | .region _ ops _ => dstsR ops.toList
  | _ => []

theorem mem_dstsR {ops : List Oper} {o : Oper} (h : o ∈ ops) {t : Nat} (e : o.dst = some t) : t ∈ dstsR ops := by
  unfold dstsR
  rw [List.mem_filterMap]
  exact ⟨o, h, e⟩

def QK (ds : List Nat) (a0 : Act) (Q : Exit → Act → World → Prop) (e : Exit) (a : Act) (w : World) : Prop := Q e a w ∧ (e = .normal → Kept ds a0 a)

section
variable {P : Program} {ops : Array Oper} {Q : Exit → Act → World → Prop} {ds : List Nat} {a0 : Act}

theorem letsOut_keep (h : LetsOut Q) : LetsOut (QK ds a0 Q) := by
  unfold LetsOut at h ⊢
  obtain ⟨a, w, h⟩ := h
  exact ⟨a, w, h, fun e => by cases e⟩

theorem op_keep {o : Oper} {a : Act} {w : World} {K K' : Act → World → Prop} (hd : ∀ t, o.dst = some t → t ∈ ds) (hK : ∀ a' w', Kept ds a a' → K a' w' → K' a' w') (h : o.wp P a w K Q) : o.wp P a w K' (QK ds a0 Q) := by
  unfold Oper.wp at *
  generalize (execOp a.eval o).run P w = r at *
  cases r with
  | ok n w' =>
    cases n <;> simp only [Oper.upon] at h ⊢ <;>
      first
        | exact hK _ _ (kept_put hd) h
        | exact hK _ _ (show Kept ds a ({ a with defers := _ }.put o.dst _) from fun s hs => kept_put (a := { a with defers := _ }) hd s hs) h
        | exact Calls.mono h (fun e w'' he => by
            cases e with
            | returned v => exact hK _ _ (kept_put hd) he
            | panicked c => exact ⟨he, fun e => by cases e⟩
            | outgrown => exact letsOut_keep he)
        | exact _root_.Go.Rows.mono h (fun _ _ he => hK _ _ (kept_put hd) he)
  | halt x w' =>
    cases x <;> simp only [Oper.upon] at h ⊢ <;> first | exact h | exact ⟨h, fun e => by cases e⟩

theorem list_keep : ∀ (l : List Oper) (a : Act) (w : World), (∀ o, o ∈ l → ∀ t, o.dst = some t → t ∈ ds) → Kept ds a0 a → wpList P ops Q l a w → wpList P ops (QK ds a0 Q) l a w
  | [], a, w, _, hk, h => ⟨h, fun _ => hk⟩
  | o :: l, a, w, hd, hk, h => by
    have hd0 := hd o (by simp)
    have hd1 : ∀ o', o' ∈ l → ∀ t, o'.dst = some t → t ∈ ds := fun o' ho => hd o' (by simp [ho])
    unfold wpList at h ⊢
    split at h
    · rename_i hw
      rw [if_pos hw]
      rcases h with h | ⟨h1, h2⟩
      · exact .inl (op_keep hd0 (fun a' w' k hl => list_keep l a' w' hd1 (hk.trans k) hl) h)
      · exact .inr ⟨h1, letsOut_keep h2⟩
    · rename_i hw
      rw [if_neg hw]
      exact list_keep l _ w hd1 (hk.trans (kept_put hd0)) h

theorem any_keep (hd : ∀ o, o ∈ ops.toList → ∀ t, o.dst = some t → t ∈ ds) : ∀ (fuel : Nat) (listed : Array Bool) (a : Act) (w : World), Kept ds a0 a → wpAny P .any ops Q fuel listed a w → wpAny P .any ops (QK ds a0 Q) fuel listed a w
  | 0, listed, a, w, hk, h => ⟨h.1, h.2, fun _ => hk⟩
  | fuel + 1, listed, a, w, hk, h => by
    refine ⟨fun hr => ⟨h.1 hr, fun _ => hk⟩, fun i hi => ?_⟩
    have := h.2 i hi
    unfold wpOp at this ⊢
    split
    · rename_i hn
      rw [hn] at this
      exact any_keep hd fuel _ a w hk this
    · rename_i o ho
      rw [ho] at this
      have hd0 := hd o (Array.mem_toList_iff.2 (Array.mem_of_getElem? ho))
      dsimp only at this
      split at this
      · rename_i hw
        rw [if_pos hw]
        rcases this with h | ⟨h1, h2⟩
        · exact .inl (op_keep hd0 (fun a' w' k hl => any_keep hd fuel _ a' w' (hk.trans k) hl) h)
        · exact .inr ⟨h1, letsOut_keep h2⟩
      · rename_i hw
        rw [if_neg hw]
        exact any_keep hd fuel _ _ w (hk.trans (kept_put hd0)) this

end
end Go.Proofs.Pen

namespace Go.Proofs.Pen
open Go RowKit

def Ex.to : Ex → Exit
  | .normal => .normal
  | .exit id => .exit id
  | .ret => .ret

structure Res.leN (n : Nat) (r r' : Res) : Prop where
  H : ∀ a v, r.H a = some v → r'.H a = some v
  ι : ∀ i p, i < n → r.ι i = some p → r'.ι i = some p

theorem Res.leN.refl (n : Nat) (r : Res) : r.leN n r := ⟨fun _ _ h => h, fun _ _ _ h => h⟩
theorem Res.leN.trans {n : Nat} {a b c : Res} (h : a.leN n b) (k : b.leN n c) : a.leN n c := ⟨fun x v e => k.H x v (h.H x v e), fun i p hi e => k.ι i p hi (h.ι i p hi e)⟩
theorem Res.le.leN {n : Nat} {r r' : Res} (h : r.le r') : r.leN n r' := ⟨h.H, fun i p _ e => h.ι i p e⟩

def WP (P : Program) (n : Nat) (c : Code) (f : St → T (Ex × St)) : Prop :=
  ∀ (st : St) (ex : Ex) (st' : St), (f st).run = some (ex, st') → ∀ (w0 : Base P) (M : Nat → Prop) (r : Res) (a : Act) (w : World), (∀ i, w0.Z i → i < n) → StRel w0 M st r a w →
    c.wp P (fun e a' w' => e = ex.to ∧ Kept (dstsC c) a a' ∧ ∃ r', r.leN n r' ∧ StRel w0 M st' r' a' w') a w

def SOK (P : Program) (n : Nat) (S : Nat → Option (St → T (Ex × St))) : Code → Prop
  | .loop c => SOK P n S c
  | .scope c => SOK P n S c
  | .seq x y => SOK P n S x ∧ SOK P n S y
  | .cond _ x y => SOK P n S x ∧ SOK P n S y
  | .block id body => match S id with
    | some s => WP P n (.block id body) s
    | none => SOK P n S body
  | _ => True

section
variable {P : Program} {F : Fns} {D : Nat → Bool} {S : Nat → Option (St → T (Ex × St))}

theorem SRel.settle {r : Res} {ρ : Env} {tm : Array Value} (h : SRel r ρ tm) : SRel r ρ.settle tm := by
  intro s
  unfold Env.settle
  have := h s
  split
  · simp [SlotRel, VRel]
  · exact this

theorem runOps_sound (hF : QuietOK P F.quiet) (hD : DeepOK P F.deep) {ops : Array Oper} {w0 : Base P} {M : Nat → Prop} : ∀ {l : List Oper} {k : Nat} {st st' : St} {r : Res} {a : Act} {w : World} {Q : Exit → Act → World → Prop},
    (runOps P F D ops (fun _ => true) l k st).run = some st' → StRel w0 M st r a w → (∀ a' w', (∃ r', r.le r' ∧ StRel w0 M st' r' a' w') → Q .normal a' w') → wpList P ops Q l a w
  | [], k, st, st', r, a, w, Q, h, hR, hQ => by
    have := run_ret h; subst this
    exact hQ a w ⟨r, .refl r, hR⟩
  | o :: l, k, st, st', r, a, w, Q, h, hR, hQ => by
    obtain ⟨st1, h1, h2⟩ := run_bind h
    refine wpList_step fun K hK => ?_
    refine stepOp_sound hF hD h1 hR K Q ?_
    rintro a' w' ⟨r', k1, k2⟩
    refine hK a' w' (runOps_sound hF hD h2 k2 fun a'' w'' ⟨r'', k3, k4⟩ => hQ a'' w'' ⟨r'', k1.trans k3, k4⟩)

theorem settle_plain (ρ : Env) (s t : Nat) (p : Bool) (v : AV) : ρ.settle s ≠ .when t p v := by
  unfold Env.settle
  split
  · intro e; cases e
  · rename_i hn; exact hn t p v

theorem region_sound (hm : P.follows .mixedOrders = true) (hF : QuietOK P F.quiet) (hD : DeepOK P F.deep) {ops : Array Oper} {id : Nat} {draw : Bool} {n : Nat} : WP P n (.region id ops draw) (runCode P F D S (.region id ops draw)) := by
  intro st ex st' h w0 M r a w hz hR
  unfold runCode at h
  obtain ⟨st1, h1, h2⟩ := run_bind h
  have h2 : (T.ret (Ex.normal, { st1 with ρ := st1.ρ.settle }) : T (Ex × St)).run = some (ex, st') := by
    cases hf : F.frc with
    | true => rw [hf] at h2; dsimp only at h2; rw [forceSt_eq] at h2; exact h2
    | false => rw [hf] at h2; exact h2
  have := run_ret h2
  cases this
  have hd : ∀ o, o ∈ ops.toList → ∀ t, o.dst = some t → t ∈ dstsC (.region id ops draw) := fun o ho t e => mem_dstsR ho e
  have fin : ∀ e a' w', QK (dstsC (.region id ops draw)) a (fun e a' w' => e = .normal ∧ ∃ r', r.le r' ∧ StRel w0 M st1 r' a' w') e a' w' →
      (e = Ex.normal.to ∧ Kept (dstsC (.region id ops draw)) a a' ∧ ∃ r', r.leN n r' ∧ StRel w0 M { st1 with ρ := st1.ρ.settle } r' a' w') := by
    rintro e a' w' ⟨⟨rfl, r', k1, k2⟩, k3⟩
    exact ⟨rfl, k3 rfl, r', k1.leN, k2.rel, k2.fr.settle, k2.size, k2.defers⟩
  have hQ : ∀ a' w', (∃ r', r.le r' ∧ StRel w0 M st1 r' a' w') → (Exit.normal = .normal ∧ ∃ r', r.le r' ∧ StRel w0 M st1 r' a' w') := fun a' w' h => ⟨rfl, h⟩
  cases draw with
  | false =>
    have h3 := runOps_sound (Q := fun e a' w' => e = .normal ∧ ∃ r', r.le r' ∧ StRel w0 M st1 r' a' w') hF hD (by simpa using h1) hR hQ
    exact wp_mono (wp_region_list (list_keep (a0 := a) ops.toList a w hd (.refl _ a) h3)) fin
  | true =>
    have h3 := any_sound (st := { st with ρ := st.ρ.settle }) (Q := fun e a' w' => e = .normal ∧ ∃ r', r.le r' ∧ StRel w0 M st1 r' a' w') hF hD (settle_plain _) (by simpa using h1) ⟨hR.rel, hR.fr.settle, hR.size, hR.defers⟩ hQ
    exact wp_mono (wp_region_any hm (any_keep (a0 := a) hd _ _ a _ (.refl _ a) h3)) fin

theorem rounds_mono {P : Program} {c : Code} {Q Q' : Exit → Act → World → Prop} (h : ∀ e a w, Q e a w → Q' e a w) : ∀ {k : Nat} {a : Act} {w : World}, Code.rounds P c Q k a w → Code.rounds P c Q' k a w
  | 0, _, _, hh => hh
  | k + 1, _, _, hh => wp_mono hh fun e a w he => by
      cases e <;> first | exact rounds_mono h he | exact h _ _ _ he

theorem runCode_sound {n : Nat} (hm : P.follows .mixedOrders = true) (hF : QuietOK P F.quiet) (hD : DeepOK P F.deep) : ∀ (c : Code), SOK P n S c → WP P n c (runCode P F D S c)
  | .skip, _ => by
    intro st ex st' h w0 M r a w hz hR
    unfold runCode at h
    cases run_ret h
    exact wp_skip ⟨rfl, .refl _ a, r, .refl n r, hR⟩
  | .label l, _ => by
    intro st ex st' h w0 M r a w hz hR
    unfold runCode at h
    cases run_ret h
    exact wp_label ⟨rfl, .refl _ a, r, .refl n r, hR⟩
  | .ret, _ => by
    intro st ex st' h w0 M r a w hz hR
    unfold runCode at h
    cases run_ret h
    exact wp_ret ⟨rfl, .refl _ a, r, .refl n r, hR⟩
  | .exit id, _ => by
    intro st ex st' h w0 M r a w hz hR
    unfold runCode at h
    cases run_ret h
    exact wp_exit ⟨rfl, .refl _ a, r, .refl n r, hR⟩
  | .region id ops draw, _ => region_sound hm hF hD
  | .seq x y, hS => by
    intro st ex st' h w0 M r a w hz hR
    unfold runCode at h
    obtain ⟨⟨ex1, st1⟩, h1, h2⟩ := run_bind h
    refine wp_seq ?_
    refine wp_mono (runCode_sound hm hF hD x hS.1 st ex1 st1 h1 w0 M r a w hz hR) ?_
    rintro e a' w' ⟨rfl, kx, r', k1, k2⟩
    cases ex1 with
    | normal =>
      show y.wp P _ a' w'
      refine wp_mono (runCode_sound hm hF hD y hS.2 st1 ex st' h2 w0 M r' a' w' hz k2) ?_
      rintro e a'' w'' ⟨rfl, ky, r'', k3, k4⟩
      exact ⟨rfl, (kx.mono fun _ h => List.mem_append_left _ h).trans (ky.mono fun _ h => List.mem_append_right _ h), r'', k1.trans k3, k4⟩
    | exit id =>
      cases run_ret h2
      exact ⟨rfl, kx.mono fun _ h => List.mem_append_left _ h, r', k1, k2⟩
    | ret =>
      cases run_ret h2
      exact ⟨rfl, kx.mono fun _ h => List.mem_append_left _ h, r', k1, k2⟩
  | .cond c x y, hS => by
    intro st ex st' h w0 M r a w hz hR
    have hc := ev_rel hR.fr (as := none) (fun _ _ e => by cases e) c
    have later : ∀ {b : Bool} {d : Code} {st1 : St}, a.eval c = .bool b → (b = true → d = x) → (b = false → d = y) → WP P n d (runCode P F D S d) → (runCode P F D S d st1).run = some (ex, st') → StRel w0 M st1 r a w →
        (Code.cond c x y).wp P (fun e a' w' => e = ex.to ∧ Kept (dstsC (.cond c x y)) a a' ∧ ∃ r', r.leN n r' ∧ StRel w0 M st' r' a' w') a w := by
      intro b d st1 hb h1 h2 hw hr hR1
      refine wp_cond hb ?_
      cases b with
      | true => have := h1 rfl; subst this; simpa using wp_mono (hw st1 ex st' hr w0 M r a w hz hR1) fun e a' w' ⟨k1, k2, k3⟩ => ⟨k1, k2.mono fun _ h => List.mem_append_left _ h, k3⟩
      | false => have := h2 rfl; subst this; simpa using wp_mono (hw st1 ex st' hr w0 M r a w hz hR1) fun e a' w' ⟨k1, k2, k3⟩ => ⟨k1, k2.mono fun _ h => List.mem_append_right _ h, k3⟩
    unfold runCode at h
    split at h
    · rename_i he
      rw [he] at hc
      exact later (b := true) (by simpa only [VRel] using hc) (fun _ => rfl) (fun e => by cases e) (runCode_sound hm hF hD x hS.1) h hR
    · rename_i he
      rw [he] at hc
      exact later (b := false) (by simpa only [VRel] using hc) (fun e => by cases e) (fun _ => rfl) (runCode_sound hm hF hD y hS.2) h hR
    · rename_i b he
      rw [he] at hc
      simp only [VRel] at hc
      have hto : ∀ (v : AV), VRel r v (.bool b) → StRel w0 M (condSt c st v) r a w := by
        intro v hv
        unfold condSt
        cases c with
        | tmp t =>
          refine ⟨hR.rel, hR.fr.know (.of ?_), hR.size, hR.defers⟩
          have : a.tmps.getD t Go.undef = .bool b := hc
          rw [this]; exact hv
        | _ => exact hR
      rcases run_ifT h with ⟨hb, h⟩ | ⟨hb, h⟩
      · exact later hc (fun _ => rfl) (fun e => by rw [hb] at e; cases e) (runCode_sound hm hF hD x hS.1) h (hto .tt (by rw [hb]; simp only [VRel]))
      · exact later hc (fun e => by rw [hb] at e; cases e) (fun _ => rfl) (runCode_sound hm hF hD y hS.2) h (hto .ff (by rw [hb]; simp only [VRel]))
    · exact (run_fail h).elim
  | .block id body, hS => by
    intro st ex st' h w0 M r a w hz hR
    unfold runCode at h
    unfold SOK at hS
    split at h
    · rename_i s hs
      rw [hs] at hS
      exact hS st ex st' h w0 M r a w hz hR
    · rename_i hs
      rw [hs] at hS
      obtain ⟨⟨ex1, st1⟩, h1, h2⟩ := run_bind h
      refine wp_block (wp_mono (runCode_sound hm hF hD body hS st ex1 st1 h1 w0 M r a w hz hR) ?_)
      rintro e a' w' ⟨rfl, kx, r', k1, k2⟩
      cases ex1 with
      | normal => cases run_ret h2; exact ⟨rfl, kx, r', k1, k2⟩
      | ret => cases run_ret h2; exact ⟨rfl, kx, r', k1, k2⟩
      | exit id' =>
        dsimp only at h2
        split at h2
        · rename_i hid
          cases run_ret h2
          simp only [Ex.to, Exit.inBlock, hid, if_true]
          exact ⟨trivial, kx, r', k1, k2⟩
        · rename_i hid
          cases run_ret h2
          simp only [Ex.to, Exit.inBlock, hid, if_false]
          exact ⟨trivial, kx, r', k1, k2⟩
  | .loop c, hS => by
    intro st ex st' h w0 M r a w hz hR
    unfold runCode at h
    have hc : WP P n c (runCode P F D S c) := runCode_sound hm hF hD c hS
    have key : ∀ (k : Nat) (st : St) (r : Res) (a : Act) (w : World), (loopN (runCode P F D S c) k st).run = some (ex, st') → StRel w0 M st r a w →
        Code.rounds P c (fun e a' w' => e ≠ .normal ∧ e = ex.to ∧ Kept (dstsC c) a a' ∧ ∃ r', r.leN n r' ∧ StRel w0 M st' r' a' w') k a w := by
      intro k
      induction k with
      | zero => intro st r a w h _; exact (run_fail h).elim
      | succ k ih =>
        intro st r a w h hR
        obtain ⟨⟨e1, st1⟩, h1, h2⟩ := run_bind h
        show c.wp P _ a w
        refine wp_mono (hc _ _ _ h1 w0 M r a w hz hR) ?_
        rintro e' a' w' ⟨rfl, kx, r1, q1, q2⟩
        cases e1 with
        | normal =>
          refine rounds_mono ?_ (ih st1 r1 a' w' h2 q2)
          rintro e' a'' w'' ⟨s0, s1, ky, r3, s2, s3⟩
          exact ⟨s0, s1, kx.trans ky, r3, q1.trans s2, s3⟩
        | exit i => cases run_ret h2; exact ⟨fun h => (by cases h), rfl, kx, r1, q1, q2⟩
        | ret => cases run_ret h2; exact ⟨fun h => (by cases h), rfl, kx, r1, q1, q2⟩
    refine wp_mono (wp_loop_rounds F.fuel (key F.fuel st r a w h hR)) ?_
    rintro e' a' w' ⟨_, rfl, kx, r', s1, s2⟩
    exact ⟨rfl, kx, r', s1, s2⟩
  | .rangeFunc _ _ _ _, _ => by intro st ex st' h; unfold runCode at h; exact (run_fail h).elim
  | .scope c, hS => by
    intro st ex st' h w0 M r a w hz hR
    unfold runCode at h
    refine wp_scope_straight (wp_mono (runCode_sound hm hF hD c hS st ex st' h w0 M r a w hz hR) ?_)
    rintro e a' w' ⟨rfl, k⟩
    cases ex <;> exact ⟨rfl, k⟩
  | .goto l, _ => by intro st ex st' h; unfold runCode at h; exact (run_fail h).elim
  | .refuse s, _ => by intro st ex st' h; unfold runCode at h; exact (run_fail h).elim

theorem resAV_sound {w0 : Base P} {w : World} {M : Nat → Prop} {st : St} {r : Res} {a : Act} (hR : StRel w0 M st r a w) {x : ResultVar} {v : AV} (h : (resAV P st x).run = some v) :
    ∃ u, (match x with | .tmp t => pure (a.tmps.getD t Go.undef) | .cell c t => do loadVar t (← asAddr (a.tmps.getD c Go.undef)) : Sem Value).run P w = .ok u w ∧ VRel r v u := by
  have slot : ∀ t, VRel r (match st.ρ t with | .when _ _ _ => .junk | v => v) (a.tmps.getD t Go.undef) := by
    intro t
    have := hR.fr t
    split
    · simp [VRel]
    · rename_i hn
      exact this.plain (by cases hx : st.ρ t <;> first | rfl | exact (hn _ _ _ hx).elim)
  cases x with
  | tmp t =>
    have := run_ret h; subst this
    exact ⟨_, rfl, slot t⟩
  | cell c t =>
    unfold resAV at h
    obtain ⟨u, e1, e2⟩ := load_exact (P := P) hR.rel (fun _ _ => rfl) h (slot c)
    refine ⟨u, ?_, e2⟩
    dsimp only
    cases hv : a.tmps.getD c Go.undef with
    | pointer p =>
      rw [hv] at e1
      cases p with
      | some q => simpa [Instr.loadAt, Instr.sureAddr, asAddr] using e1
      | none => simp [Instr.loadAt, Instr.sureAddr] at e1
    | _ => rw [hv] at e1; simp [Instr.loadAt, Instr.sureAddr] at e1

theorem resAll_sound {w0 : Base P} {w : World} {M : Nat → Prop} {st : St} {r : Res} {a : Act} (hR : StRel w0 M st r a w) : ∀ {l : List ResultVar} {vs : List AV}, (resAll P st l).run = some vs →
    ∃ us, (l.mapM fun (x : ResultVar) => (match x with | .tmp t => pure (a.tmps.getD t Go.undef) | .cell c t => do loadVar t (← asAddr (a.tmps.getD c Go.undef)) : Sem Value)).run P w = .ok us w ∧ LRel r vs us
  | [], vs, h => by
    have := run_ret h; subst this
    exact ⟨[], by simp, by simp [LRel]⟩
  | x :: l, vs, h => by
    obtain ⟨v, h1, h2⟩ := run_bind h
    obtain ⟨vs', h3, h4⟩ := run_bind h2
    have := run_ret h4; subst this
    obtain ⟨u, e1, e2⟩ := resAV_sound hR h1
    obtain ⟨us, e3, e4⟩ := resAll_sound hR h3
    refine ⟨u :: us, ?_, by simp only [LRel]; exact ⟨u, us, rfl, e2, e4⟩⟩
    rw [List.mapM_cons]
    simp only [Sem.run_bind]
    rw [e1]
    simp only [Result.andThen]
    rw [e3]
    rfl

theorem tup_rel {r : Res} {vs : List AV} {us : List Value} (h : LRel r vs us) : VRel r (tupOf vs) (if h : us.toArray.size = 1 then us.toArray[0] else .tuple us.toArray) := by
  have hl := h.length
  unfold tupOf
  split
  · rename_i v
    simp only [LRel] at h
    obtain ⟨u, ws, rfl, h1, h2⟩ := h
    subst h2
    simpa using h1
  · rename_i hn
    have : ¬ us.toArray.size = 1 := by
      intro e
      cases vs with
      | nil => simp at hl e; rw [hl] at e; simp at e
      | cons v l =>
        cases l with
        | nil => exact hn v rfl
        | cons x y => simp at hl e; omega
    rw [dif_neg this]
    simp only [VRel]
    exact ⟨us, rfl, h⟩

theorem body_sound (hm : P.follows .mixedOrders = true) (hF : QuietOK P F.quiet) (hD : DeepOK P F.deep) {g : FuncId} {fn : Func} (hfn : P.funcs[g]? = some fn) {args : List AV} {own own' : List Blk} {v : AV} (hS : ∀ c, fn.body = some c → SOK P own.length S c)
    (h : (runBody P F D S fn args own).run = some (v, own')) {w0 : Base P} {w : World} {M : Nat → Prop} {r : Res} {us : List Value} (hR : Rel w0 M (Sn own) own r w) (hl : LRel r args us) (hn : args.length ≤ fn.ntmps) :
    Calls P g us.toArray w fun e w' => ∃ u r', e = .returned u ∧ r.le r' ∧ Rel w0 M (Sn own') own' r' w' ∧ VRel r' v u := by
  unfold runBody at h
  split at h
  · exact (run_fail h).elim
  · rename_i c hc
    obtain ⟨⟨ex, st⟩, h1, h2⟩ := run_bind h
    refine calls_of_wp hfn hc ?_
    have hlen := hl.length
    have hstart : StRel w0 M ⟨startEnv fn.ntmps args, own, fn.ntmps⟩ r { tmps := us.toArray ++ Array.replicate (fn.ntmps - us.toArray.size) undef, defers := [] } w := by
      refine ⟨hR, fun s => ?_, by simp; omega, rfl⟩
      refine .of ?_
      show VRel r (if s < fn.ntmps then args.getD s .undef else .junk) _
      split
      · rename_i hs
        rcases Nat.lt_or_ge s args.length with h3 | h3
        · have e1 : args[s]? = some args[s] := List.getElem?_eq_getElem h3
          obtain ⟨u, e2, e3⟩ := hl.get e1
          have hs' : s < us.length := by omega
          have e4 : (us.toArray ++ Array.replicate (fn.ntmps - us.toArray.size) undef).getD s Go.undef = u := by
            rw [Array.getD_eq_getD_getElem?, Array.getElem?_append_left (by simpa using hs')]
            simp [e2]
          have e5 : args.getD s .undef = args[s] := by rw [List.getD_eq_getElem?_getD, e1]; rfl
          rw [e4, e5]; exact e3
        · have e4 : (us.toArray ++ Array.replicate (fn.ntmps - us.toArray.size) undef).getD s Go.undef = Go.undef := by
            rw [Array.getD_eq_getD_getElem?, Array.getElem?_append_right (by simp; omega)]
            simp only [Array.getElem?_replicate]
            split <;> rfl
          have e5 : args.getD s .undef = .undef := by rw [List.getD_eq_getElem?_getD, List.getElem?_eq_none h3]; rfl
          rw [e4, e5]; simp [VRel]
      · simp [VRel]
    refine wp_mono (runCode_sound hm hF hD c (hS c hc) _ ex st h1 w0 M r _ w (fun i hi => (hR.zero i hi).1) hstart) ?_
    rintro e a' w' ⟨rfl, _, r', k1', k2⟩
    have k1 : r.le r' := ⟨k1'.H, fun i p e => k1'.ι i p (hR.there e) e⟩
    have fin : ∀ {vs : List AV}, (resAll P st fn.results.toList).run = some vs → tupOf vs = v → st.own = own' → bodyPost P fn (fun e w' => ∃ u r', e = .returned u ∧ r.le r' ∧ Rel w0 M (Sn own') own' r' w' ∧ VRel r' v u) .ret a' w' := by
      intro vs e1 e2 e3
      obtain ⟨us', m1, m2⟩ := resAll_sound k2 e1
      refine ⟨k2.defers, _, ?_, _, r', rfl, k1, by rw [← e3]; exact k2.rel, by rw [← e2]; exact tup_rel m2⟩
      unfold results
      rw [Array.mapM_eq_mapM_toList]
      have e0 : (List.toArray <$> fn.results.toList.mapM fun (x : ResultVar) => (match x with | .tmp t => pure (a'.tmps.getD t Go.undef) | .cell c t => do loadVar t (← asAddr (a'.tmps.getD c Go.undef)) : Sem Value)).run P w' = .ok us'.toArray w' := by
        have e1 : ∀ (s : Sem (List Value)), List.toArray <$> s = (do let x ← s; pure x.toArray) := fun s => rfl
        rw [e1, Sem.run_bind, m1]
        rfl
      rw [Sem.run_bind]
      exact (congrArg (fun z : Result (Array Value) => z.andThen fun a w' => Sem.run P (pure (if h : a.size = 1 then a[0] else Value.tuple a)) w') e0)
    cases ex with
    | exit id => exact (run_fail h2).elim
    | normal =>
      obtain ⟨vs, e1, e2⟩ := run_bind h2
      have := run_ret e2
      cases this
      exact fin e1 rfl rfl
    | ret =>
      obtain ⟨vs, e1, e2⟩ := run_bind h2
      have := run_ret e2
      cases this
      exact fin e1 rfl rfl

end
end Go.Proofs.Pen

namespace Go.Proofs.Pen
open Go RowKit

def FnOK (P : Program) (g : Nat) (c : List AV → T AV) : Prop := ∀ args v, (c args).run = some v → FnAt P g args v
def ExOK (P : Program) (g : Nat) (c : List AV → T AV) : Prop := ∀ args v, (c args).run = some v → ExAt P g args v

theorem quiet_none (P : Program) : QuietOK P noQ := fun _ _ _ h => (run_fail h).elim
theorem deep_none (P : Program) : DeepOK P noDeep := fun _ _ _ _ _ h => (run_fail h).elim
theorem quiet_ext {P : Program} {q : Nat → List AV → T AV} {g : Nat} {c : List AV → T AV} (hq : QuietOK P q) (hc : FnOK P g c) : QuietOK P (ext q g c) := by
  intro g' args v h
  unfold ext at h
  split at h
  · rename_i e; subst e; exact .inl (hc args v h)
  · exact hq g' args v h

theorem quiet_extE {P : Program} {q : Nat → List AV → T AV} {g : Nat} {c : List AV → T AV} (hq : QuietOK P q) (hc : ExOK P g c) : QuietOK P (ext q g c) := by
  intro g' args v h
  unfold ext at h
  split at h
  · rename_i e; subst e; exact .inr (hc args v h)
  · exact hq g' args v h

theorem fn_sound {P : Program} {F : Fns} {D : Nat → Bool} {S : Nat → Option (St → T (Ex × St))} (hm : P.follows .mixedOrders = true) (hF : QuietOK P F.quiet) (hD : DeepOK P F.deep) {g : FuncId} {fn : Func} (hfn : P.funcs[g]? = some fn)
    (hS : ∀ c, fn.body = some c → SOK P 0 S c) {args : List AV} {v : AV} (h : (runFn P F D S fn args).run = some v) (hn : args.length ≤ fn.ntmps) (r : Res) (w : World) (us : List Value) (hι : ∀ i, r.ι i = none)
    (hp : ∀ a u, r.H a = some u → w.cell? a = some u) (hgl : ∀ a u, globOf P a = some u → r.H a = some u) (hl : LRel r args us) :
    Calls P g us.toArray w fun e w' => ∃ u r', e = .returned u ∧ r.le r' ∧ Below w.heap.size w w' ∧ (∀ a x, r'.H a = some x → w'.cell? a = some x) ∧
      (∀ a x, r'.H a = some x → r.H a = some x ∨ w.heap.size ≤ a.block) ∧ (∀ i, r'.ι i = none) ∧ VRel r' v u := by
  obtain ⟨⟨v0, own'⟩, h1, h2⟩ := run_bind h
  have := run_ret h2; subst this
  have hR : Rel (P := P) ⟨w, r.H, fun _ => False⟩ (fun _ => False) (Sn []) [] r w :=
    ⟨rfl, rfl, .refl _, Nat.le_refl _, fun _ _ _ => rfl, hp, fun id k hs => by unfold Sn at hs; simp at hs, fun i j k l b C C' hi => by unfold Sn at hi; simp at hi, fun i _ => hι i, fun a v e => .inl e, fun i h => h.elim, hgl⟩
  refine (body_sound (own := []) hm hF hD hfn hS h1 hR hl hn).mono ?_
  rintro e w' ⟨u, r', rfl, k1, k2, k3⟩
  have hb : Below w.heap.size w w' := ⟨k2.os, k2.tape, k2.output, k2.size, fun b hb => k2.base b hb (fun h => h)⟩
  let r2 : Res := { H := fun a => if w.heap.size ≤ a.block then w'.cell? a else r'.H a, ι := fun _ => none }
  have hH : ∀ a x, r'.H a = some x → r2.H a = some x := fun a x e => by
    show (if w.heap.size ≤ a.block then w'.cell? a else r'.H a) = some x
    split
    · exact k2.pers a x e
    · exact e
  refine ⟨u, r2, rfl, ⟨fun a x e => hH a x (k1.H a x e), fun i p e => by rw [hι] at e; cases e⟩, hb, fun a x e => ?_, fun a x e => ?_, fun _ => rfl, frz_rel k2 (fun _ _ => rfl) hH (fun id k b C hk hlv hi o v e => ?_) 6 v0 u k3⟩
  · have e' : (if w.heap.size ≤ a.block then w'.cell? a else r'.H a) = some x := e
    split at e'
    · exact e'
    · exact k2.pers a x e'
  · have e' : (if w.heap.size ≤ a.block then w'.cell? a else r'.H a) = some x := e
    split at e'
    · rename_i hge; exact .inr hge
    · rcases k2.up a x e' with h | h | h
      · exact .inl h
      · exact .inr h
      · exact h.elim
  · show (if w.heap.size ≤ b then w'.cell? ⟨b, o, none⟩ else r'.H ⟨b, o, none⟩) = some v
    rcases k2.blk id k (List.getElem?_eq_some_iff.1 hk).1 hk hlv with ⟨b', C', e1, _, e2, _⟩ | ⟨e1, _⟩
    · rw [hi] at e1; cases e1
      rcases e2 with e2 | e2
      · exact e2.elim
      · rw [if_pos e2]; exact e
    · rw [hi] at e1; cases e1

theorem whole1_some {α : Type} {o : Option (α × List AV)} {x : α} (h : whole1 o = some x) : o = some (x, []) := by
  unfold whole1 at h
  split at h
  · simp at h; subst h; rfl
  · cases h

theorem av_rel {r : Res} : ∀ {t : Ty} {x : t.den} {v : AV} {u : Value}, t.decP v = some x → VRel r v u → VRel r (t.av x) u
  | .st a, x, v, u, h, hv => by
    have h0 : ∃ cs, v = .agg cs ∧ whole1 (a.dec cs) = some x := by
      unfold Ty.decP at h
      dsimp only at h
      split at h
      · exact ⟨_, rfl, h⟩
      · cases h
    obtain ⟨cs, rfl, h1⟩ := h0
    have hd := whole1_some h1
    simp only [VRel] at hv
    obtain ⟨vs, rfl, hl⟩ := hv
    obtain ⟨us, ws, rfl, h1, h2⟩ := dec_sound a hl hd
    simp only [LRel] at h2; subst h2
    simp only [Ty.av, VRel]
    exact ⟨us, by simp, LRel.enc h1⟩
  | .pair _ _, _, _, _, h, _ => by simp [Ty.decP] at h
  | .unit, _, _, _, h, _ => by simp [Ty.decP] at h
  | .int k, x, v, u, h, hv => one (t := .int k) h hv (fun k => by simpa only [TRel, Ty.av, VRel, List.cons.injEq, and_true] using k)
  | .bool, x, v, u, h, hv => one (t := .bool) h hv (fun k => by simpa only [TRel, Ty.av, VRel, List.cons.injEq, and_true] using k)
  | .str, x, v, u, h, hv => one (t := .str) h hv (fun k => by simpa only [TRel, Ty.av, VRel, List.cons.injEq, and_true] using k)
  | .flt, x, v, u, h, hv => one (t := .flt) h hv (fun k => by
      simp only [TRel, Ty.av, VRel, List.cons.injEq, and_true] at k ⊢
      obtain ⟨v', rfl, k⟩ := k; exact k)
  | .sl a, x, v, u, h, hv => one (t := .sl a) h hv (fun k => by
      simp only [TRel, Ty.av, VRel, List.cons.injEq, and_true] at k ⊢
      exact k)
  | .ptr a, x, v, u, h, hv => one (t := .ptr a) h hv (fun k => by
      simp only [TRel, Ty.av, VRel, List.cons.injEq, and_true] at k ⊢
      obtain ⟨p, us, e, k1, k2⟩ := k
      exact ⟨p, us, e, LRel.enc k1, k2⟩)
  | .clo f c, x, v, u, h, hv => one (t := .clo f c) h hv (fun k => by
      simp only [TRel, Ty.av, VRel, List.cons.injEq, and_true] at k ⊢
      obtain ⟨us, e, k1⟩ := k
      exact ⟨[], us, by simpa using e, by simp [LRel], LRel.enc k1⟩)
  | .er tf te, x, v, u, h, hv => one (t := .er tf te) h hv (fun k => by simpa only [TRel, Ty.av, VRel, List.cons.injEq, and_true] using k)
  | .ifi t k, x, v, u, h, hv => one (t := .ifi t k) h hv (fun k => by
      simp only [TRel, Ty.av, VRel, List.cons.injEq, and_true] at k ⊢
      exact ⟨_, k, rfl⟩)
 where
  one {t : Ty} {x : t.den} {v : AV} {u : Value} (h : whole1 (t.dec [v]) = some x) (hv : VRel r v u) (k : TRel r.H t x [u] → VRel r (t.av x) u) : VRel r (t.av x) u := by
    have hd := whole1_some h
    have hl : LRel r [v] [u] := by simp only [LRel]; exact ⟨u, [], rfl, hv, rfl⟩
    obtain ⟨us, ws, e, h1, h2⟩ := dec_sound t hl hd
    simp only [LRel] at h2; subst h2
    simp at e; subst e
    exact k h1

theorem decs_rel {r : Res} : ∀ {l : List Ty} {vs : List AV} {x : dens l} {us : List Value}, decs l vs = some x → LRel r vs us → LRel r (encs l x) us := by
  intro l
  induction l with
  | nil =>
    intro vs x us h hl
    cases vs with
    | nil => exact hl
    | cons v l =>
      have h0 : decs [] (v :: l) = none := rfl
      rw [h0] at h; cases h
  | cons t l ih =>
    intro vs x us h hl
    cases l with
    | nil =>
      cases vs with
      | nil =>
        have h0 : decs [t] [] = none := rfl
        rw [h0] at h; cases h
      | cons v l =>
        cases l with
        | nil =>
          simp only [LRel] at hl
          obtain ⟨u, ws, rfl, k1, k2⟩ := hl
          have h' : t.decP v = some x := h
          show LRel r [t.av x] (u :: ws)
          simp only [LRel]
          exact ⟨u, ws, rfl, av_rel h' k1, k2⟩
        | cons v' l =>
          have h0 : decs [t] (v :: v' :: l) = none := rfl
          rw [h0] at h; cases h
    | cons t' l =>
      cases vs with
      | nil =>
        have h0 : decs (t :: t' :: l) [] = none := rfl
        rw [h0] at h; cases h
      | cons v vs =>
        have h0 : decs (t :: t' :: l) (v :: vs) = (match t.decP v, decs (t' :: l) vs with | some x, some y => some (x, y) | _, _ => none) := rfl
        rw [h0] at h
        split at h
        · rename_i y z h1 h2
          cases h
          simp only [LRel] at hl
          obtain ⟨u, ws, rfl, k1, k2⟩ := hl
          show LRel r (t.av y :: encs (t' :: l) z) (u :: ws)
          simp only [LRel]
          exact ⟨u, ws, rfl, av_rel h1 k1, ih h2 k2⟩
        · cases h

theorem encs_length : ∀ (l : List Ty) (x : dens l), (encs l x).length = l.length
  | [], _ => rfl
  | [t], _ => rfl
  | t :: u :: l, x => by simp [encs, encs_length (u :: l)]

theorem tupOf_many {vs : List AV} (h : vs.length ≠ 1) : tupOf vs = .tup vs := by
  unfold tupOf
  split
  · simp at h
  · rfl

theorem decT_rel {r : Res} {l : List Ty} (hl : l.length ≠ 1) {v : AV} {x : dens l} {u : Value} (h : decT l v = some x) (hv : VRel r v u) : VRel r (outR l x) u := by
  unfold decT at h
  split at h
  · simp only [VRel] at hv
    obtain ⟨vs, rfl, hr⟩ := hv
    rw [outR, tupOf_many (by rw [encs_length]; exact hl)]
    simp only [VRel]
    exact ⟨vs, rfl, decs_rel h hr⟩
  · cases h

theorem decR_rel {r : Res} {l : List Ty} {v : AV} {x : dens l} {u : Value} (h : decR l v = some x) (hv : VRel r v u) : VRel r (outR l x) u := by
  cases l with
  | nil => exact decT_rel (by simp) h hv
  | cons t l =>
    cases l with
    | nil => exact av_rel h hv
    | cons t' l => exact decT_rel (by simp) h hv

theorem sok_none (P : Program) (n : Nat) : ∀ c : Code, SOK P n (fun _ => none) c
  | .seq x y => ⟨sok_none P n x, sok_none P n y⟩
  | .cond _ x y => ⟨sok_none P n x, sok_none P n y⟩
  | .block _ body => by unfold SOK; exact sok_none P n body
  | .loop c => sok_none P n c
  | .scope c => sok_none P n c
  | .skip | .label _ | .ret | .exit _ | .region _ _ _ | .rangeFunc _ _ _ _ | .goto _ | .refuse _ => trivial

theorem entry_ok {P : Program} {F : Fns} {D : Nat → Bool} {S : Nat → Option (St → T (Ex × St))} (hm : P.follows .mixedOrders = true) (hF : QuietOK P F.quiet) (hD : DeepOK P F.deep) {g : FuncId} {fn : Func} (hfn : P.funcs[g]? = some fn) (hc : callable P g = true)
    (hS : ∀ c, fn.body = some c → SOK P 0 S c) {ps : List Ty} {ρ : Type} {out : ρ → AV} {dec : AV → Option ρ} (hd : ∀ (r : Res) v y u, dec v = some y → VRel r v u → VRel r (out y) u) {f : dens ps → T ρ} (hn : Nat.ble ps.length fn.ntmps = true)
    (h : ∀ x y, (f x).run = some y → (runT P F D S fn (encs ps x) dec).run = some y) : FnOK P g (entry ps out f) := by
  intro args v hv
  refine ⟨hc, fun r w us hι hp hgl hl => ?_⟩
  unfold entry at hv
  split at hv
  · rename_i x hx
    obtain ⟨y, h1, h2⟩ := run_bind hv
    have := run_ret h2; subst this
    obtain ⟨v, h3, h4⟩ := run_bind (h x y h1)
    refine (fn_sound hm hF hD hfn hS h3 (by rw [encs_length]; exact Nat.le_of_ble_eq_true hn) r w us hι hp hgl (decs_rel hx hl)).mono ?_
    rintro e w' ⟨u, r', e1, k1, k2, k3, k4, k5, k6⟩
    exact ⟨u, r', e1, k1, k2, k3, k4, k5, hd r' v y u (run_optT h4) k6⟩
  · exact (run_fail hv).elim

theorem entry_tree {P : Program} {F : Fns} {D : Nat → Bool} {S : Nat → Option (St → T (Ex × St))} (hm : P.follows .mixedOrders = true) (hF : QuietOK P F.quiet) (hD : DeepOK P F.deep) {g : FuncId} {fn : Func} (hfn : P.funcs[g]? = some fn) (hc : callable P g = true)
    (hS : ∀ c, fn.body = some c → SOK P 0 S c) {ps rs : List Ty} {f : dens ps → T (dens rs)} (hn : Nat.ble ps.length fn.ntmps = true)
    (h : ∀ x, runT P F D S fn (encs ps x) (decR rs) = f x) : FnOK P g (entry ps (outR rs) f) :=
  entry_ok hm hF hD hfn hc hS (fun r v y u => decR_rel) hn fun x y hy => by rw [h x]; exact hy

end Go.Proofs.Pen

namespace Go.Proofs.Pen
open Go RowKit

inductive OIt where
  | dat (t : Ty)
  | own (t : Ty)
  | pt (j : Nat)                -- a pointer to block number j of the told ones
  | mpi                         -- a map that only this box leads to

inductive Lay where
  | val (t : Ty)
  | box (t : Ty)
  | row (t : Ty)
  | obx (its : List OIt)
  | blk (id : Nat) (t : Ty)      -- an own block that was there at the beginning; no slot
  | oblk (id : Nat) (its : List OIt)
  | bdead (id : Nat)             -- such a block of which nothing is told
  | rf (id off : Nat)            -- a pointer into such a block
  | lit (v : AV)
  | cbox (f : Nat) (t : Ty)          -- a closure over one box, to which nothing else leads
  | clo (f : Nat) (ks : List Nat)   -- a closure over told blocks, by their numbers
  | al (k : Nat) (t : Ty)            -- a slice over a told row, by its number
  | ags (its : List OIt)             -- a struct in a slot; to its rows nothing else leads

def litEq : AV → AV → Bool
  | .undef, .undef => true
  | .nili, .nili => true
  | .nilp, .nilp => true
  | .nilf, .nilf => true
  | .nilsl, .nilsl => true
  | .tt, .tt => true
  | .ff, .ff => true
  | .clo f [] [], .clo g [] [] => Nat.beq f g
  | _, _ => false

theorem litEq_eq {a b : AV} (h : litEq a b = true) : a = b := by
  unfold litEq at h
  split at h <;> first | rfl | cases h | skip
  have := Nat.eq_of_beq_eq_true h
  subst this; rfl

def oden : List OIt → Type
  | [] => Unit
  | .dat t :: l => t.den × oden l
  | .own t :: l => List t.den × oden l
  | .pt _ :: l => oden l
  | .mpi :: l => List (ByteArray × Bool) × oden l

def nO : List OIt → Nat
  | [] => 0
  | .dat _ :: l => nO l
  | .own _ :: l => nO l + 1
  | .pt _ :: l => nO l
  | .mpi :: l => nO l + 1

def cellsO : (its : List OIt) → oden its → Nat → List AV
  | [], _, _ => []
  | .dat t :: l, x, m => t.enc x.1 ++ cellsO l x.2 m
  | .own t :: l, x, m => .osl t m 0 x.1.length none :: cellsO l x.2 (m + 1)
  | .pt j :: l, x, m => .ref j 0 :: cellsO l x m
  | .mpi :: l, x, m => .mpr m :: cellsO l x.2 (m + 1)

def rowsO : (its : List OIt) → oden its → List Blk
  | [], _ => []
  | .dat _ :: l, x => rowsO l x.2
  | .own t :: l, x => .row t x.1 :: rowsO l x.2
  | .pt _ :: l, x => rowsO l x
  | .mpi :: l, x => .mp x.1 :: rowsO l x.2

def lden : List (Nat × Lay) → Type
  | [] => Unit
  | (_, .val t) :: L => t.den × lden L
  | (_, .box t) :: L => t.den × lden L
  | (_, .cbox _ t) :: L => t.den × lden L
  | (_, .row t) :: L => List t.den × lden L
  | (_, .obx its) :: L => oden its × lden L
  | (_, .blk _ t) :: L => t.den × lden L
  | (_, .oblk _ its) :: L => oden its × lden L
  | (_, .bdead _) :: L => lden L
  | (_, .rf _ _) :: L => lden L
  | (_, .lit _) :: L => lden L
  | (_, .clo _ _) :: L => lden L
  | (_, .al _ _) :: L => Nat × lden L
  | (_, .ags its) :: L => oden its × lden L

def encS : (L : List (Nat × Lay)) → lden L → Nat → Nat → List (Nat × AV)
  | [], _, _, _ => []
  | (s, .val t) :: L, x, k, m => (s, t.av x.1) :: encS L x.2 k m
  | (s, .box _) :: L, x, k, m => (s, .ref k 0) :: encS L x.2 (k + 1) m
  | (s, .cbox f _) :: L, x, k, m => (s, .clo f [] [.ref k 0]) :: encS L x.2 (k + 1) m
  | (s, .row t) :: L, x, k, m => (s, .osl t k 0 x.1.length none) :: encS L x.2 (k + 1) m
  | (s, .obx its) :: L, x, k, m => (s, .ref k 0) :: encS L x.2 (k + 1) (m + nO its)
  | (_, .blk _ _) :: L, x, k, m => encS L x.2 (k + 1) m
  | (_, .oblk _ its) :: L, x, k, m => encS L x.2 (k + 1) (m + nO its)
  | (_, .bdead _) :: L, x, k, m => encS L x (k + 1) m
  | (s, .rf i o) :: L, x, k, m => (s, .ref i o) :: encS L x k m
  | (s, .lit v) :: L, x, k, m => (s, v) :: encS L x k m
  | (s, .clo f ks) :: L, x, k, m => (s, .clo f [] (ks.map fun k => .ref k 0)) :: encS L x k m
  | (s, .al i t) :: L, x, k, m => (s, .osl t i 0 x.1 none) :: encS L x.2 k m
  | (s, .ags its) :: L, x, k, m => (s, .agg (cellsO its x.1 m)) :: encS L x.2 k (m + nO its)

def encB1 : (L : List (Nat × Lay)) → lden L → Nat → List Blk
  | [], _, _ => []
  | (_, .val _) :: L, x, m => encB1 L x.2 m
  | (_, .box t) :: L, x, m => .cells (t.enc x.1) :: encB1 L x.2 m
  | (_, .cbox _ t) :: L, x, m => .cells (t.enc x.1) :: encB1 L x.2 m
  | (_, .row t) :: L, x, m => .row t x.1 :: encB1 L x.2 m
  | (_, .obx its) :: L, x, m => .cells (cellsO its x.1 m) :: encB1 L x.2 (m + nO its)
  | (_, .blk _ t) :: L, x, m => .cells (t.enc x.1) :: encB1 L x.2 m
  | (_, .oblk _ its) :: L, x, m => .cells (cellsO its x.1 m) :: encB1 L x.2 (m + nO its)
  | (_, .bdead _) :: L, x, m => .dead :: encB1 L x m
  | (_, .rf _ _) :: L, x, m => encB1 L x m
  | (_, .lit _) :: L, x, m => encB1 L x m
  | (_, .clo _ _) :: L, x, m => encB1 L x m
  | (_, .al _ _) :: L, x, m => encB1 L x.2 m
  | (_, .ags its) :: L, x, m => encB1 L x.2 (m + nO its)

def encB2 : (L : List (Nat × Lay)) → lden L → List Blk
  | [], _ => []
  | (_, .val _) :: L, x => encB2 L x.2
  | (_, .box _) :: L, x => encB2 L x.2
  | (_, .cbox _ _) :: L, x => encB2 L x.2
  | (_, .row _) :: L, x => encB2 L x.2
  | (_, .obx its) :: L, x => rowsO its x.1 ++ encB2 L x.2
  | (_, .blk _ _) :: L, x => encB2 L x.2
  | (_, .oblk _ its) :: L, x => rowsO its x.1 ++ encB2 L x.2
  | (_, .bdead _) :: L, x => encB2 L x
  | (_, .rf _ _) :: L, x => encB2 L x
  | (_, .lit _) :: L, x => encB2 L x
  | (_, .clo _ _) :: L, x => encB2 L x
  | (_, .al _ _) :: L, x => encB2 L x.2
  | (_, .ags its) :: L, x => rowsO its x.1 ++ encB2 L x.2

def nB : List (Nat × Lay) → Nat
  | [] => 0
  | (_, .val _) :: L => nB L
  | (_, .box _) :: L => nB L + 1
  | (_, .cbox _ _) :: L => nB L + 1
  | (_, .row _) :: L => nB L + 1
  | (_, .obx _) :: L => nB L + 1
  | (_, .blk _ _) :: L => nB L + 1
  | (_, .oblk _ _) :: L => nB L + 1
  | (_, .bdead _) :: L => nB L + 1
  | (_, .rf _ _) :: L => nB L
  | (_, .lit _) :: L => nB L
  | (_, .clo _ _) :: L => nB L
  | (_, .al _ _) :: L => nB L
  | (_, .ags _) :: L => nB L

def encB (L : List (Nat × Lay)) (x : lden L) : List Blk := encB1 L x (nB L) ++ encB2 L x

def look : List (Nat × AV) → Env
  | [], _ => .junk
  | (t, v) :: l, s => if s = t then v else look l s

def mkSt (L : List (Nat × Lay)) (nt : Nat) (x : lden L) : St := ⟨look (encS L x 0 (nB L)), encB L x, nt⟩

def boxAt (own : List Blk) (t : Ty) (id : Nat) : Option t.den :=
  match rowAt own id with
  | .cells cs => whole1 (t.dec cs)
  | _ => none

def rowOf (own : List Blk) (t : Ty) (v : AV) : Option (List t.den × Option Nat) :=
  match v with
  | .nilsl => some ([], none)
  | .osl t' id 0 len _ => if t' = t then match rowAt own id with
      | .row t'' xs => if h : t'' = t then some ((castSl h xs).take len, some id) else none
      | _ => none
    else none
  | _ => none

def isRef (c : AV) (j : Nat) : Bool := match c with
  | .ref i 0 => Nat.beq i j
  | _ => false
theorem isRef_eq {c : AV} {j : Nat} (h : isRef c j = true) : c = .ref j 0 := by
  unfold isRef at h
  split at h
  · rw [Nat.eq_of_beq_eq_true h]
  · cases h

def mpOf (own : List Blk) (v : AV) : Option (List (ByteArray × Bool) × Option Nat) :=
  match v with
  | .mpr id => match rowAt own id with
    | .mp l => some (l, some id)
    | _ => none
  | _ => none
theorem mpOf_some {own : List Blk} {v : AV} {l : List (ByteArray × Bool)} {i : Option Nat} (h : mpOf own v = some (l, i)) : ∃ id, v = .mpr id ∧ i = some id ∧ rowAt own id = .mp l := by
  unfold mpOf at h
  split at h
  · rename_i id
    split at h
    · rename_i l' hr
      cases h
      exact ⟨id, rfl, rfl, hr⟩
    · cases h
  · cases h

def absO (own : List Blk) : (its : List OIt) → List AV → Option (oden its × List (Option Nat))
  | [], [] => some ((), [])
  | [], _ :: _ => none
  | .dat t :: l, cs => match t.dec cs with
    | some (x, cs') => match absO own l cs' with
      | some (y, ids) => some ((x, y), ids)
      | none => none
    | none => none
  | .own _ :: _, [] => none
  | .own t :: l, c :: cs => match rowOf own t c, absO own l cs with
    | some (x, i), some (y, ids) => some ((x, y), i :: ids)
    | _, _ => none
  | .pt _ :: _, [] => none
  | .pt j :: l, c :: cs => match isRef c j with
    | true => absO own l cs
    | false => none
  | .mpi :: _, [] => none
  | .mpi :: l, c :: cs => match mpOf own c, absO own l cs with
    | some (x, i), some (y, ids) => some ((x, y), i :: ids)
    | _, _ => none

def oboxAt (own : List Blk) (its : List OIt) (id : Nat) : Option (oden its × List (Option Nat)) :=
  match rowAt own id with
  | .cells cs => absO own its cs
  | _ => none

abbrev Ids := List (Option Nat)

def cboxOf : AV → Option (Nat × Nat)
  | .clo f [] [.ref id 0] => some (f, id)
  | _ => none
theorem cboxOf_some {v : AV} {f id : Nat} (h : cboxOf v = some (f, id)) : v = .clo f [] [.ref id 0] := by
  unfold cboxOf at h
  split at h
  · cases h; rfl
  · cases h

def alOf (t : Ty) : AV → Option Nat
  | .nilsl => some 0
  | .osl t' _ 0 len _ => if t' = t then some len else none
  | _ => none

def cellsOf : AV → Option (List AV)
  | .agg cs => some cs
  | _ => none
theorem cellsOf_some {v : AV} {cs : List AV} (h : cellsOf v = some cs) : v = .agg cs := by
  unfold cellsOf at h
  split at h
  · cases h; rfl
  · cases h

def absL (own : List Blk) (ρ : Env) : (L : List (Nat × Lay)) → Option (lden L × Ids × Ids)
  | [] => some ((), [], [])
  | (s, .val t) :: L => match t.decP (ρ s), absL own ρ L with
    | some x, some (y, ids) => some ((x, y), ids)
    | _, _ => none
  | (s, .box t) :: L => match ρ s with
    | .ref id 0 => match boxAt own t id, absL own ρ L with
      | some x, some (y, ids, js) => some ((x, y), some id :: ids, js)
      | _, _ => none
    | _ => none
  | (s, .cbox f t) :: L => match cboxOf (ρ s) with
    | some (f', id) => if f' = f then (match boxAt own t id, absL own ρ L with
      | some x, some (y, ids, js) => some ((x, y), some id :: ids, js)
      | _, _ => none) else none
    | none => none
  | (s, .row t) :: L => match rowOf own t (ρ s), absL own ρ L with
    | some (x, i), some (y, ids, js) => some ((x, y), i :: ids, js)
    | _, _ => none
  | (s, .obx its) :: L => match ρ s with
    | .ref id 0 => match oboxAt own its id, absL own ρ L with
      | some (x, is), some (y, ids, js) => some ((x, y), some id :: ids, is ++ js)
      | _, _ => none
    | _ => none
  | (_, .blk id t) :: L => match boxAt own t id, absL own ρ L with
    | some x, some (y, ids, js) => some ((x, y), some id :: ids, js)
    | _, _ => none
  | (_, .oblk id its) :: L => match oboxAt own its id, absL own ρ L with
    | some (x, is), some (y, ids, js) => some ((x, y), some id :: ids, is ++ js)
    | _, _ => none
  | (_, .bdead id) :: L => match absL own ρ L with
    | some (y, ids, js) => some (y, some id :: ids, js)
    | none => none
  | (s, .rf i o) :: L => match ρ s with
    | .ref i' o' => if i' = i ∧ o' = o then absL own ρ L else none
    | _ => none
  | (s, .lit v) :: L => if litEq (ρ s) v then absL own ρ L else none
  | (_, .clo _ _) :: L => absL own ρ L
  | (s, .al _ t) :: L => match alOf t (ρ s), absL own ρ L with
    | some n, some (y, ids, js) => some ((n, y), ids, js)
    | _, _ => none
  | (s, .ags its) :: L => match (cellsOf (ρ s)).bind (absO own its), absL own ρ L with
    | some (x, is), some (y, ids, js) => some ((x, y), ids, is ++ js)
    | _, _ => none

def refsB (ids : List (Option Nat)) : List Nat → List AV → Bool
  | [], [] => true
  | k :: ks, .ref id 0 :: cs => (match ids[k]? with
    | some (some i) => Nat.beq i id
    | _ => false) && refsB ids ks cs
  | _, _ => false

def closB (ρ : Env) (ids : List (Option Nat)) (L : List (Nat × Lay)) : Bool :=
  L.all fun x => match x.2 with
    | .clo f ks => match ρ x.1 with
      | .clo f' [] cs => Nat.beq f' f && refsB ids ks cs
      | _ => false
    | _ => true

def alB (ρ : Env) (ids : List (Option Nat)) (E : List Blk) (L : List (Nat × Lay)) : Bool :=
  L.all fun x => match x.2 with
    | .al k t => (match E[k]? with
      | some (.row t' _) => decide (t' = t)
      | _ => false) && (match ρ x.1 with
      | .nilsl => true
      | .osl _ id _ _ _ => (match ids[k]? with
        | some (some i) => Nat.beq i id
        | _ => false)
      | _ => false)
    | _ => true

def alOne (E : List Blk) (k n : Nat) : Bool := match E[k]? with
  | some (.row _ xs) => Nat.ble n xs.length
  | _ => false

def alD (E : List Blk) : (L : List (Nat × Lay)) → lden L → Bool
  | [], _ => true
  | (_, .val _) :: L, x => alD E L x.2
  | (_, .box _) :: L, x => alD E L x.2
  | (_, .cbox _ _) :: L, x => alD E L x.2
  | (_, .row _) :: L, x => alD E L x.2
  | (_, .obx _) :: L, x => alD E L x.2
  | (_, .blk _ _) :: L, x => alD E L x.2
  | (_, .oblk _ _) :: L, x => alD E L x.2
  | (_, .bdead _) :: L, x => alD E L x
  | (_, .rf _ _) :: L, x => alD E L x
  | (_, .lit _) :: L, x => alD E L x
  | (_, .clo _ _) :: L, x => alD E L x
  | (_, .al k _) :: L, x => alOne E k x.1 && alD E L x.2
  | (_, .ags _) :: L, x => alD E L x.2

def alsOf : (L : List (Nat × Lay)) → lden L → List (Nat × Nat × Ty × Nat)
  | [], _ => []
  | (_, .val _) :: L, x => alsOf L x.2
  | (_, .box _) :: L, x => alsOf L x.2
  | (_, .cbox _ _) :: L, x => alsOf L x.2
  | (_, .row _) :: L, x => alsOf L x.2
  | (_, .obx _) :: L, x => alsOf L x.2
  | (_, .blk _ _) :: L, x => alsOf L x.2
  | (_, .oblk _ _) :: L, x => alsOf L x.2
  | (_, .bdead _) :: L, x => alsOf L x
  | (_, .rf _ _) :: L, x => alsOf L x
  | (_, .lit _) :: L, x => alsOf L x
  | (_, .clo _ _) :: L, x => alsOf L x
  | (s, .al k t) :: L, x => (s, k, t, x.1) :: alsOf L x.2
  | (_, .ags _) :: L, x => alsOf L x.2

def hasAl (L : List (Nat × Lay)) : Bool := L.any fun x => match x.2 with
  | .al _ _ => true
  | _ => false

def deadB : List (Nat × Lay) → List Bool
  | [] => []
  | (_, .bdead _) :: L => true :: deadB L
  | (_, .val _) :: L => deadB L
  | (_, .rf _ _) :: L => deadB L
  | (_, .lit _) :: L => deadB L
  | (_, .clo _ _) :: L => deadB L
  | (_, .al _ _) :: L => deadB L
  | (_, .ags _) :: L => deadB L
  | _ :: L => false :: deadB L

def maskD : List Bool → List (Option Nat) → List (Option Nat)
  | true :: l, _ :: is => none :: maskD l is
  | false :: l, i :: is => i :: maskD l is
  | _, is => is

def onceB : List (Option Nat) → Bool
  | [] => true
  | none :: l => onceB l
  | some i :: l => l.all (fun j => match j with | some j => !Nat.beq i j | none => true) && onceB l

def Lay.first : Lay → Option Nat
  | .blk i _ => some i
  | .oblk i _ => some i
  | .bdead i => some i
  | _ => none

def isAt (l : Lay) (n : Nat) : Bool := match l.first with
  | some i => Nat.beq i n
  | none => false

def layOK (n0 : Nat) (L : List (Nat × Lay)) : Bool :=
  ((L.take n0).zipIdx.all fun x => isAt x.1.2 x.2) && Nat.ble n0 L.length && (L.drop n0).all (fun x => x.2.first.isNone) && L.all (fun x => match x.2 with
    | .rf i _ => Nat.blt i n0
    | _ => true)

def ptsO : List OIt → List Nat
  | [] => []
  | .dat _ :: l => ptsO l
  | .own _ :: l => ptsO l
  | .pt j :: l => j :: ptsO l
  | .mpi :: l => ptsO l
def ptsL : List (Nat × Lay) → List Nat
  | [] => []
  | (_, .obx its) :: L => ptsO its ++ ptsL L
  | (_, .oblk _ its) :: L => ptsO its ++ ptsL L
  | (_, .ags its) :: L => ptsO its ++ ptsL L
  | _ :: L => ptsL L
def ptB (ids : List (Option Nat)) (n : Nat) (L : List (Nat × Lay)) : Bool := (ptsL L).all fun j => (match ids[j]? with
  | some (some i) => Nat.beq i j
  | _ => false) && Nat.blt j n
theorem ptB_mem {ids : List (Option Nat)} {n : Nat} {L : List (Nat × Lay)} (h : ptB ids n L = true) : ∀ j ∈ ptsL L, ids[j]? = some (some j) ∧ j < n := by
  intro j hj
  have h := List.all_eq_true.1 h j hj
  rw [Bool.and_eq_true] at h
  obtain ⟨h1, h2⟩ := h
  refine ⟨?_, by simpa using h2⟩
  split at h1
  · rename_i i he
    rw [he, Nat.eq_of_beq_eq_true h1]
  · cases h1

def absSt (L : List (Nat × Lay)) (nt : Nat) (st : St) : Option (lden L) :=
  match absL st.own st.ρ L with
  | some (x, ids, js) => if onceB (maskD (deadB L) ids ++ js) && Nat.beq st.n nt && closB st.ρ ids L && alB st.ρ (ids ++ js) (encB L x) L && ptB (ids ++ js) (encB L x).length L then some x else none
  | none => none

def absT (L : List (Nat × Lay)) (nt : Nat) (st : St) : T (lden L) :=
  match absSt L nt st with
  | some x => match hasAl L with
    | true => .ite (alD (encB L x) L x) (.ret x) .fail
    | false => .ret x
  | none => .fail

def tr (r : Res) (i : Option (Option Nat)) (k : Option Blk) : Option (Nat × (Nat × Nat)) :=
  match i, k with
  | some (some id), some (.row _ xs) => (r.ι id).map fun p => (p.1, (p.2.1, xs.length))
  | some (some id), some _ => r.ι id
  | _, _ => none

structure Good (r r' : Res) (ids : Ids) (E : List Blk) : Prop where
  H : r'.H = r.H
  ι : ∀ j, r'.ι j = tr r ids[j]? E[j]?

def Item (r : Res) (own : List Blk) (ids : Ids) (E : List Blk) (i : Option Nat) (k : Blk) : Prop :=
  (∃ id cs cs', i = some id ∧ own[id]? = some (.cells cs) ∧ k = .cells cs' ∧ ∀ r', Good r r' ids E → ∀ vs, LRel r cs vs → LRel r' cs' vs) ∨
  (∃ t, i = none ∧ k = .row t []) ∨
  (∃ id t xs len, i = some id ∧ own[id]? = some (.row t xs) ∧ k = .row t (xs.take len) ∧ (r.ι id = none → xs.take len = [])) ∨
  k = .dead ∨
  (∃ id l, i = some id ∧ own[id]? = some (.mp l) ∧ k = .mp l)

def Stands (ids : Ids) (E : List Blk) (k : Nat) (is : Ids) (bs : List Blk) : Prop := ∀ j, j < bs.length → ids[k + j]? = is[j]? ∧ E[k + j]? = bs[j]?

section
variable {own : List Blk} {ρ : Env} {r r' : Res} {tm : Array Value} {ids : Ids} {E : List Blk}

theorem rowAt_some {id : Nat} {k : Blk} (h : rowAt own id = k) (hl : isLive k = true) : own[id]? = some k :=
  rowAt_live (own := own) (ownF := own) (fun _ _ => rfl) h hl

theorem boxAt_some {t : Ty} {id : Nat} {x : t.den} (h : boxAt own t id = some x) : ∃ cs, own[id]? = some (.cells cs) ∧ ∀ vs, LRel r cs vs → LRel r (t.enc x) vs := by
  unfold boxAt at h
  split at h
  · rename_i cs hr
    refine ⟨cs, rowAt_some hr rfl, fun vs hv => ?_⟩
    obtain ⟨us, ws, rfl, h1, h2⟩ := dec_sound t hv (whole1_some h)
    simp only [LRel] at h2; subst h2
    simpa using LRel.enc h1
  · cases h

theorem noOwnL_append : ∀ (a b : List AV), noOwnL (a ++ b) = (noOwnL a && noOwnL b)
  | [], b => by simp [noOwnL]
  | x :: a, b => by simp only [List.cons_append, noOwnL, noOwnL_append a b, Bool.and_assoc]

theorem noOwn_enc : ∀ (t : Ty) (x : t.den), noOwnL (t.enc x) = true
  | .int k, x => rfl
  | .bool, x => rfl
  | .str, x => rfl
  | .flt, x => rfl
  | .unit, x => rfl
  | .pair a b, x => by simp only [Ty.enc]; rw [noOwnL_append, noOwn_enc a, noOwn_enc b]; rfl
  | .st a, x => noOwn_enc a x
  | .sl a, x => rfl
  | .ptr a, x => by simp only [Ty.enc, noOwnL, noOwn, Bool.and_true]; exact noOwn_enc a x
  | .clo f c, x => by simp only [Ty.enc, noOwnL, noOwn, Bool.and_true, Bool.true_and]; exact noOwn_enc c x
  | .er _ _, x => rfl
  | .ifi _ _, x => rfl

theorem noOwn_av : ∀ (t : Ty) (x : t.den), noOwn (t.av x) = true
  | .int k, x => rfl
  | .bool, x => rfl
  | .str, x => rfl
  | .flt, x => rfl
  | .unit, x => rfl
  | .pair a b, x => by simp only [Ty.av, noOwn]; rw [noOwnL_append, noOwn_enc a, noOwn_enc b]; rfl
  | .st a, x => noOwn_enc a x
  | .sl a, x => rfl
  | .ptr a, x => noOwn_enc a x
  | .clo f c, x => by simp only [Ty.av, noOwn, noOwnL, Bool.true_and]; exact noOwn_enc c x
  | .er _ _, x => rfl
  | .ifi _ _, x => rfl

theorem lit_rel {v v0 : AV} {u : Value} (h : litEq v v0 = true) (hv : VRel r v u) : VRel r' v0 u := by
  have := litEq_eq h
  subst this
  unfold litEq at h
  split at h <;> first | cases h; done | (simp only [VRel, LRel] at hv ⊢; exact hv)

theorem rowOf_some {P : Program} {w0 : Base P} {M : Nat → Prop} {w : World} (hR : Rel w0 M (Sn own) own r w) {t : Ty} {v : AV} {u : Value} {x : List t.den} {i : Option Nat} (h : rowOf own t v = some (x, i)) (hv : VRel r v u) :
    Item r own ids E i (.row t x) ∧ (∃ p c, u = .slice p x.length c ∧ x.length ≤ c ∧ ((x.length = 0 ∧ c = 0) ∨ ∃ id b C, i = some id ∧ r.ι id = some (b, C) ∧ p = some ⟨b, 0 * t.sz, none⟩ ∧ 0 + c ≤ C.1)) := by
  unfold rowOf at h
  split at h
  · simp at h
    obtain ⟨rfl, rfl⟩ := h
    simp only [VRel] at hv; subst hv
    exact ⟨.inr (.inl ⟨t, rfl, rfl⟩), none, 0, rfl, Nat.le_refl _, .inl ⟨rfl, rfl⟩⟩
  · rename_i t' id len cp
    split at h
    · rename_i ht; subst ht
      split at h
      · rename_i t'' xs hrow
        split at h
        · rename_i ht; subst ht
          simp at h
          obtain ⟨rfl, rfl⟩ := h
          simp only [VRel] at hv
          obtain ⟨p, c, rfl, hlc, _, hp⟩ := hv
          have hx : ∀ hlen : (xs.take len).length = len, (∃ p' c', Value.slice p len c = .slice p' (castSl rfl xs |>.take len).length c' ∧ (castSl rfl xs |>.take len).length ≤ c' ∧ _) := fun hlen => ⟨p, c, by simp [castSl, hlen], by simp only [castSl]; omega, trivial⟩
          rcases hp with ⟨rfl, rfl⟩ | ⟨b, C, hι, rfl, hC1, hC2⟩
          · refine ⟨.inr (.inr (.inl ⟨id, t'', xs, 0, rfl, rowAt_some hrow rfl, rfl, fun _ => by simp⟩)), p, 0, by simp, by simp, .inl ⟨by simp, rfl⟩⟩
          · have hlen : (xs.take len).length = len := by rw [List.length_take, (hR.row (fun _ _ => rfl) hrow hι).1]; omega
            refine ⟨.inr (.inr (.inl ⟨id, t'', xs, len, rfl, rowAt_some hrow rfl, rfl, fun e => by rw [hι] at e; cases e⟩)), some ⟨b, 0 * t''.sz, none⟩, c, ?_, ?_, .inr ⟨id, b, C, rfl, hι, rfl, hC1⟩⟩
            · show Value.slice _ len c = Value.slice _ (xs.take len).length c
              rw [hlen]
            · show (xs.take len).length ≤ c
              omega
        · cases h
      · cases h
    · cases h
  · cases h

theorem absL_val {s : Nat} {t : Ty} {L : List (Nat × Lay)} {x : lden ((s, .val t) :: L)} {is js : Ids} (h : absL own ρ ((s, .val t) :: L) = some (x, is, js)) : t.decP (ρ s) = some x.1 ∧ absL own ρ L = some (x.2, is, js) := by
  unfold absL at h
  cases h1 : t.decP (ρ s) with
  | none => rw [h1] at h; cases h
  | some y =>
    cases h2 : absL own ρ L with
    | none => rw [h1, h2] at h; cases h
    | some z => obtain ⟨z, i⟩ := z; rw [h1, h2] at h; cases h; exact ⟨rfl, rfl⟩

theorem absL_blk {s id : Nat} {t : Ty} {L : List (Nat × Lay)} {x : lden ((s, .blk id t) :: L)} {is js : Ids} (h : absL own ρ ((s, .blk id t) :: L) = some (x, is, js)) : ∃ is', is = some id :: is' ∧ boxAt own t id = some x.1 ∧ absL own ρ L = some (x.2, is', js) := by
  unfold absL at h
  cases h1 : boxAt own t id with
  | none => rw [h1] at h; cases h
  | some y =>
    cases h2 : absL own ρ L with
    | none => rw [h1, h2] at h; cases h
    | some z => obtain ⟨z, i, j⟩ := z; rw [h1, h2] at h; cases h; exact ⟨i, rfl, rfl, rfl⟩

theorem absL_oblk {s id : Nat} {its : List OIt} {L : List (Nat × Lay)} {x : lden ((s, .oblk id its) :: L)} {is js : Ids} (h : absL own ρ ((s, .oblk id its) :: L) = some (x, is, js)) : ∃ is' ks js', is = some id :: is' ∧ js = ks ++ js' ∧ oboxAt own its id = some (x.1, ks) ∧ absL own ρ L = some (x.2, is', js') := by
  unfold absL at h
  cases h1 : oboxAt own its id with
  | none => rw [h1] at h; cases h
  | some y =>
    obtain ⟨y, ks⟩ := y
    cases h2 : absL own ρ L with
    | none => rw [h1, h2] at h; cases h
    | some z => obtain ⟨z, i, j⟩ := z; rw [h1, h2] at h; cases h; exact ⟨i, ks, j, rfl, rfl, rfl, rfl⟩

theorem absL_bdead {s id : Nat} {L : List (Nat × Lay)} {x : lden ((s, .bdead id) :: L)} {is js : Ids} (h : absL own ρ ((s, .bdead id) :: L) = some (x, is, js)) : ∃ is', is = some id :: is' ∧ absL own ρ L = some ((x : lden L), is', js) := by
  unfold absL at h
  cases h2 : absL own ρ L with
  | none => rw [h2] at h; cases h
  | some z => obtain ⟨z, i, j⟩ := z; rw [h2] at h; cases h; exact ⟨i, rfl, rfl⟩

theorem absL_box {s : Nat} {t : Ty} {L : List (Nat × Lay)} {x : lden ((s, .box t) :: L)} {is js : Ids} (h : absL own ρ ((s, .box t) :: L) = some (x, is, js)) : ∃ id is', ρ s = .ref id 0 ∧ is = some id :: is' ∧ boxAt own t id = some x.1 ∧ absL own ρ L = some (x.2, is', js) := by
  unfold absL at h
  cases hρ : ρ s
  case ref id off =>
    rw [hρ] at h
    cases off with
    | succ n => cases h
    | zero =>
      cases h1 : boxAt own t id with
      | none => simp only [h1] at h; cases h
      | some y =>
        cases h2 : absL own ρ L with
        | none => simp only [h1, h2] at h; cases h
        | some z => obtain ⟨z, i, j⟩ := z; simp only [h1, h2] at h; cases h; exact ⟨id, i, rfl, rfl, h1, rfl⟩
  all_goals (rw [hρ] at h; cases h)

theorem absL_cbox {s f : Nat} {t : Ty} {L : List (Nat × Lay)} {x : lden ((s, .cbox f t) :: L)} {is js : Ids} (h : absL own ρ ((s, .cbox f t) :: L) = some (x, is, js)) : ∃ id is', ρ s = .clo f [] [.ref id 0] ∧ is = some id :: is' ∧ boxAt own t id = some x.1 ∧ absL own ρ L = some (x.2, is', js) := by
  unfold absL at h
  cases hc : cboxOf (ρ s) with
  | none => rw [hc] at h; cases h
  | some p =>
    obtain ⟨f', id⟩ := p
    rw [hc] at h
    have h : (if f' = f then (match boxAt own t id, absL own ρ L with
      | some x, some (y, ids, js) => some ((x, y), some id :: ids, js)
      | _, _ => none) else none) = some (x, is, js) := h
    split at h
    · rename_i he
      subst he
      cases h1 : boxAt own t id with
      | none => simp only [h1] at h; cases h
      | some y =>
        cases h2 : absL own ρ L with
        | none => simp only [h1, h2] at h; cases h
        | some z => obtain ⟨z, i, j⟩ := z; simp only [h1, h2] at h; cases h; exact ⟨id, i, cboxOf_some hc, rfl, h1, rfl⟩
    · cases h

theorem absL_obx {s : Nat} {its : List OIt} {L : List (Nat × Lay)} {x : lden ((s, .obx its) :: L)} {is js : Ids} (h : absL own ρ ((s, .obx its) :: L) = some (x, is, js)) : ∃ id is' ks js', ρ s = .ref id 0 ∧ is = some id :: is' ∧ js = ks ++ js' ∧ oboxAt own its id = some (x.1, ks) ∧ absL own ρ L = some (x.2, is', js') := by
  unfold absL at h
  cases hρ : ρ s
  case ref id off =>
    rw [hρ] at h
    cases off with
    | succ n => cases h
    | zero =>
      cases h1 : oboxAt own its id with
      | none => simp only [h1] at h; cases h
      | some y =>
        obtain ⟨y, ks⟩ := y
        cases h2 : absL own ρ L with
        | none => simp only [h1, h2] at h; cases h
        | some z => obtain ⟨z, i, j⟩ := z; simp only [h1, h2] at h; cases h; exact ⟨id, i, ks, j, rfl, rfl, rfl, h1, rfl⟩
  all_goals (rw [hρ] at h; cases h)

theorem absL_row {s : Nat} {t : Ty} {L : List (Nat × Lay)} {x : lden ((s, .row t) :: L)} {is js : Ids} (h : absL own ρ ((s, .row t) :: L) = some (x, is, js)) : ∃ i is', is = i :: is' ∧ rowOf own t (ρ s) = some (x.1, i) ∧ absL own ρ L = some (x.2, is', js) := by
  unfold absL at h
  cases h1 : rowOf own t (ρ s) with
  | none => rw [h1] at h; cases h
  | some y =>
    obtain ⟨y, i⟩ := y
    cases h2 : absL own ρ L with
    | none => rw [h1, h2] at h; cases h
    | some z => obtain ⟨z, j, k⟩ := z; rw [h1, h2] at h; cases h; exact ⟨i, j, rfl, rfl, rfl⟩

theorem absL_rf {s i o : Nat} {L : List (Nat × Lay)} {x : lden ((s, .rf i o) :: L)} {is js : Ids} (h : absL own ρ ((s, .rf i o) :: L) = some (x, is, js)) : ρ s = .ref i o ∧ absL own ρ L = some ((x : lden L), is, js) := by
  unfold absL at h
  cases hρ : ρ s
  case ref i' o' =>
    rw [hρ] at h
    by_cases he : i' = i ∧ o' = o
    · obtain ⟨rfl, rfl⟩ := he
      have h : (if i' = i' ∧ o' = o' then absL own ρ L else none) = some ((x : lden L), is, js) := h
      rw [if_pos ⟨rfl, rfl⟩] at h
      exact ⟨rfl, h⟩
    · have h : (if i' = i ∧ o' = o then absL own ρ L else none) = some ((x : lden L), is, js) := h
      rw [if_neg he] at h; cases h
  all_goals (rw [hρ] at h; cases h)

theorem absL_lit {s : Nat} {v : AV} {L : List (Nat × Lay)} {x : lden ((s, .lit v) :: L)} {is js : Ids} (h : absL own ρ ((s, .lit v) :: L) = some (x, is, js)) : litEq (ρ s) v = true ∧ absL own ρ L = some ((x : lden L), is, js) := by
  unfold absL at h
  have h : (if litEq (ρ s) v = true then absL own ρ L else none) = some ((x : lden L), is, js) := h
  split at h
  · rename_i hl; exact ⟨hl, h⟩
  · cases h

theorem absL_clo {s f : Nat} {ks : List Nat} {L : List (Nat × Lay)} {x : lden ((s, .clo f ks) :: L)} {is js : Ids} (h : absL own ρ ((s, .clo f ks) :: L) = some (x, is, js)) : absL own ρ L = some ((x : lden L), is, js) := by
  unfold absL at h; exact h

theorem absL_al {s k : Nat} {t : Ty} {L : List (Nat × Lay)} {x : lden ((s, .al k t) :: L)} {is js : Ids} (h : absL own ρ ((s, .al k t) :: L) = some (x, is, js)) : alOf t (ρ s) = some x.1 ∧ absL own ρ L = some (x.2, is, js) := by
  unfold absL at h
  cases h1 : alOf t (ρ s) with
  | none => rw [h1] at h; cases h
  | some y =>
    cases h2 : absL own ρ L with
    | none => rw [h1, h2] at h; cases h
    | some z => obtain ⟨z, i⟩ := z; rw [h1, h2] at h; cases h; exact ⟨rfl, rfl⟩

theorem absL_ags {s : Nat} {its : List OIt} {L : List (Nat × Lay)} {x : lden ((s, .ags its) :: L)} {is js : Ids} (h : absL own ρ ((s, .ags its) :: L) = some (x, is, js)) : ∃ cs ks js', ρ s = .agg cs ∧ js = ks ++ js' ∧ absO own its cs = some (x.1, ks) ∧ absL own ρ L = some (x.2, is, js') := by
  unfold absL at h
  cases h0 : cellsOf (ρ s) with
  | none => rw [h0] at h; cases h
  | some cs =>
    cases h1 : absO own its cs with
    | none => rw [h0] at h; simp only [Option.bind_some, h1] at h; cases h
    | some y =>
      obtain ⟨y, ks⟩ := y
      cases h2 : absL own ρ L with
      | none => rw [h0] at h; simp only [Option.bind_some, h1, h2] at h; cases h
      | some z => obtain ⟨z, i, j⟩ := z; rw [h0] at h; simp only [Option.bind_some, h1, h2] at h; cases h; exact ⟨cs, ks, j, cellsOf_some h0, rfl, h1, rfl⟩

theorem nO_rows : ∀ (its : List OIt) (x : oden its), (rowsO its x).length = nO its
  | [], _ => rfl
  | .dat _ :: l, x => nO_rows l x.2
  | .own _ :: l, x => by simp [rowsO, nO, nO_rows l x.2]
  | .pt _ :: l, x => nO_rows l x
  | .mpi :: l, x => by simp [rowsO, nO, nO_rows l x.2]

theorem absO_dat {t : Ty} {l : List OIt} {cs : List AV} {x : oden (.dat t :: l)} {ks : Ids} (h : absO own (.dat t :: l) cs = some (x, ks)) : ∃ cs', t.dec cs = some (x.1, cs') ∧ absO own l cs' = some (x.2, ks) := by
  unfold absO at h
  cases h1 : t.dec cs with
  | none => rw [h1] at h; cases h
  | some y =>
    obtain ⟨y, cs'⟩ := y
    rw [h1] at h
    dsimp only at h
    cases h2 : absO own l cs' with
    | none => rw [h2] at h; cases h
    | some z => obtain ⟨z, i⟩ := z; rw [h2] at h; cases h; exact ⟨cs', rfl, h2⟩

theorem absO_own {t : Ty} {l : List OIt} {cs : List AV} {x : oden (.own t :: l)} {ks : Ids} (h : absO own (.own t :: l) cs = some (x, ks)) : ∃ c cs' i ks', cs = c :: cs' ∧ ks = i :: ks' ∧ rowOf own t c = some (x.1, i) ∧ absO own l cs' = some (x.2, ks') := by
  cases cs with
  | nil => cases h
  | cons c cs =>
    unfold absO at h
    cases h1 : rowOf own t c with
    | none => rw [h1] at h; cases h
    | some y =>
      obtain ⟨y, i⟩ := y
      cases h2 : absO own l cs with
      | none => rw [h1, h2] at h; cases h
      | some z => obtain ⟨z, j⟩ := z; rw [h1, h2] at h; cases h; exact ⟨c, cs, i, j, rfl, rfl, h1, h2⟩

theorem absO_pt {j : Nat} {l : List OIt} {cs : List AV} {x : oden (.pt j :: l)} {ks : Ids} (h : absO own (.pt j :: l) cs = some (x, ks)) : ∃ cs', cs = .ref j 0 :: cs' ∧ absO own l cs' = some ((x : oden l), ks) := by
  cases cs with
  | nil => cases h
  | cons c cs =>
    unfold absO at h
    cases h1 : isRef c j with
    | false => rw [h1] at h; cases h
    | true => rw [h1] at h; exact ⟨cs, by rw [isRef_eq h1], h⟩

theorem absO_mpi {l : List OIt} {cs : List AV} {x : oden (.mpi :: l)} {ks : Ids} (h : absO own (.mpi :: l) cs = some (x, ks)) : ∃ id cs' ks', cs = .mpr id :: cs' ∧ ks = some id :: ks' ∧ rowAt own id = .mp x.1 ∧ absO own l cs' = some (x.2, ks') := by
  cases cs with
  | nil => cases h
  | cons c cs =>
    unfold absO at h
    cases h1 : mpOf own c with
    | none => rw [h1] at h; cases h
    | some y =>
      obtain ⟨y, i⟩ := y
      obtain ⟨id, rfl, rfl, hr⟩ := mpOf_some h1
      cases h2 : absO own l cs with
      | none => rw [h1, h2] at h; cases h
      | some z => obtain ⟨z, j⟩ := z; rw [h1, h2] at h; cases h; exact ⟨id, cs, j, rfl, rfl, hr, h2⟩

theorem absO_len : ∀ {its : List OIt} {cs : List AV} {x : oden its} {ks : Ids}, absO own its cs = some (x, ks) → ks.length = nO its
  | [], [], _, _, h => by cases h; rfl
  | [], _ :: _, _, _, h => by cases h
  | .dat _ :: l, cs, x, ks, h => by obtain ⟨cs', _, h2⟩ := absO_dat h; exact absO_len (its := l) h2
  | .own _ :: l, cs, x, ks, h => by obtain ⟨c, cs', i, ks', _, rfl, _, h2⟩ := absO_own h; simp [nO, absO_len (its := l) h2]
  | .pt _ :: l, cs, x, ks, h => by obtain ⟨cs', _, h2⟩ := absO_pt h; exact absO_len (its := l) h2
  | .mpi :: l, cs, x, ks, h => by obtain ⟨id, cs', ks', _, rfl, _, h2⟩ := absO_mpi h; simp [nO, absO_len (its := l) h2]

theorem osl_rel {P : Program} {w0 : Base P} {M : Nat → Prop} {w : World} (hR : Rel w0 M (Sn own) own r w) (hg : Good r r' ids E) {t : Ty} {c : AV} {x : List t.den} {i : Option Nat} {m : Nat} (h : rowOf own t c = some (x, i)) (hi : ids[m]? = some i) (hE : E[m]? = some (.row t x)) {u : Value} (hv : VRel r c u) :
    VRel r' (.osl t m 0 x.length none) u := by
  obtain ⟨_, p, c', hu, hc, hp⟩ := rowOf_some (ids := ids) (E := E) hR h hv
  simp only [VRel]
  refine ⟨p, c', hu, hc, by simp, ?_⟩
  rcases hp with hp | ⟨id, b, C, rfl, e1, e2, e3⟩
  · exact .inl hp
  · have h0 := hg.ι m
    rw [hi, hE] at h0
    simp only [tr] at h0
    exact .inr ⟨b, _, by rw [h0, e1]; rfl, e2, by simpa using e3, by simp⟩

theorem cellsO_rel {P : Program} {w0 : Base P} {M : Nat → Prop} {w : World} (hR : Rel w0 M (Sn own) own r w) (hg : Good r r' ids E) : ∀ {its : List OIt} {cs : List AV} {x : oden its} {ks : Ids} {m : Nat} {vs : List Value}, absO own its cs = some (x, ks) → (∀ j ∈ ptsO its, ids[j]? = some (some j) ∧ j < E.length) → Stands ids E m ks (rowsO its x) → LRel r cs vs → LRel r' (cellsO its x m) vs
  | [], [], _, _, m, vs, h, _, _, hl => by simpa [cellsO, LRel] using hl
  | [], _ :: _, _, _, _, _, h, _, _, _ => by cases h
  | .dat t :: l, cs, x, ks, m, vs, h, hp, hs, hl => by
    obtain ⟨cs', h1, h2⟩ := absO_dat h
    obtain ⟨us, ws, rfl, k1, k2⟩ := dec_sound t hl h1
    show LRel r' (t.enc x.1 ++ cellsO l x.2 m) (us ++ ws)
    exact (LRel.enc (by rw [hg.H]; exact k1)).append (cellsO_rel hR hg (its := l) h2 hp hs k2)
  | .own t :: l, cs, x, ks, m, vs, h, hp, hs, hl => by
    obtain ⟨c, cs', i, ks', rfl, rfl, h1, h2⟩ := absO_own h
    simp only [LRel] at hl
    obtain ⟨v, ws, rfl, k1, k2⟩ := hl
    have hs0 := hs 0 (by simp [rowsO])
    simp only [Nat.add_zero, rowsO, List.getElem?_cons_zero] at hs0
    show LRel r' (.osl t m 0 x.1.length none :: cellsO l x.2 (m + 1)) (v :: ws)
    simp only [LRel]
    refine ⟨v, ws, rfl, osl_rel hR hg h1 hs0.1 hs0.2 k1, cellsO_rel hR hg (its := l) h2 hp (fun j hj => ?_) k2⟩
    have := hs (j + 1) (by simp only [rowsO, List.length_cons]; omega)
    simp only [rowsO, List.getElem?_cons_succ] at this
    rw [show m + 1 + j = m + (j + 1) by omega]; exact this
  | .pt j :: l, cs, x, ks, m, vs, h, hp, hs, hl => by
    obtain ⟨cs', rfl, h2⟩ := absO_pt h
    simp only [LRel] at hl
    obtain ⟨v, ws, rfl, k1, k2⟩ := hl
    obtain ⟨hj, hjE⟩ := hp j (by simp [ptsO])
    show LRel r' (.ref j 0 :: cellsO l x m) (v :: ws)
    simp only [LRel]
    refine ⟨v, ws, rfl, ?_, cellsO_rel hR hg (its := l) h2 (fun i hi => hp i (by simp [ptsO, hi])) hs k2⟩
    have h0 := hg.ι j
    rw [hj, List.getElem?_eq_getElem hjE] at h0
    simp only [VRel] at k1 ⊢
    obtain ⟨b, C, e1, e2⟩ := k1
    cases hE : E[j] <;> (rw [hE] at h0; simp only [tr, e1, Option.map_some] at h0; exact ⟨b, _, h0, e2⟩)
  | .mpi :: l, cs, x, ks, m, vs, h, hp, hs, hl => by
    obtain ⟨id, cs', ks', rfl, rfl, h1, h2⟩ := absO_mpi h
    simp only [LRel] at hl
    obtain ⟨v, ws, rfl, k1, k2⟩ := hl
    have hs0 := hs 0 (by simp [rowsO])
    simp only [Nat.add_zero, rowsO, List.getElem?_cons_zero] at hs0
    show LRel r' (.mpr m :: cellsO l x.2 (m + 1)) (v :: ws)
    simp only [LRel]
    refine ⟨v, ws, rfl, ?_, cellsO_rel hR hg (its := l) h2 hp (fun j hj => ?_) k2⟩
    · have h0 := hg.ι m
      rw [hs0.1, hs0.2] at h0
      simp only [VRel] at k1 ⊢
      obtain ⟨b, C, e1, e2⟩ := k1
      exact ⟨b, C, by rw [h0]; exact e1, e2⟩
    · have := hs (j + 1) (by simp only [rowsO, List.length_cons]; omega)
      simp only [rowsO, List.getElem?_cons_succ] at this
      rw [show m + 1 + j = m + (j + 1) by omega]; exact this

theorem rowsO_items {P : Program} {w0 : Base P} {M : Nat → Prop} {w : World} (hR : Rel w0 M (Sn own) own r w) : ∀ {its : List OIt} {cs : List AV} {x : oden its} {ks : Ids} {vs : List Value}, absO own its cs = some (x, ks) → LRel r cs vs → ∀ (j : Nat) (i : Option Nat) (k : Blk), ks[j]? = some i → (rowsO its x)[j]? = some k → Item r own ids E i k
  | [], [], _, _, _, h, _ => by intro j i k _ hk; simp [rowsO] at hk
  | [], _ :: _, _, _, _, h, _ => by cases h
  | .dat t :: l, cs, x, ks, vs, h, hl => by
    obtain ⟨cs', h1, h2⟩ := absO_dat h
    obtain ⟨us, ws, rfl, k1, k2⟩ := dec_sound t hl h1
    exact rowsO_items hR (its := l) h2 k2
  | .own t :: l, cs, x, ks, vs, h, hl => by
    obtain ⟨c, cs', i0, ks', rfl, rfl, h1, h2⟩ := absO_own h
    simp only [LRel] at hl
    obtain ⟨v, ws, rfl, k1, k2⟩ := hl
    intro j i k hi hk
    cases j with
    | zero =>
      simp only [List.getElem?_cons_zero, Option.some.injEq, rowsO] at hi hk
      subst hi hk
      exact (rowOf_some hR h1 k1).1
    | succ j => exact rowsO_items hR (its := l) h2 k2 j i k (by simpa using hi) (by simpa [rowsO] using hk)
  | .pt _ :: l, cs, x, ks, vs, h, hl => by
    obtain ⟨cs', rfl, h2⟩ := absO_pt h
    simp only [LRel] at hl
    obtain ⟨v, ws, rfl, k1, k2⟩ := hl
    exact rowsO_items hR (its := l) h2 k2
  | .mpi :: l, cs, x, ks, vs, h, hl => by
    obtain ⟨id, cs', ks', rfl, rfl, h1, h2⟩ := absO_mpi h
    simp only [LRel] at hl
    obtain ⟨v, ws, rfl, k1, k2⟩ := hl
    intro j i k hi hk
    cases j with
    | zero =>
      simp only [List.getElem?_cons_zero, Option.some.injEq, rowsO] at hi hk
      subst hi hk
      exact .inr (.inr (.inr (.inr ⟨id, x.1, rfl, rowAt_some h1 rfl, rfl⟩)))
    | succ j => exact rowsO_items hR (its := l) h2 k2 j i k (by simpa using hi) (by simpa [rowsO] using hk)

theorem obox_cells {P : Program} {w0 : Base P} {M : Nat → Prop} {w : World} (hR : Rel w0 M (Sn own) own r w) {its : List OIt} {id : Nat} {x : oden its} {ks : Ids} (h : oboxAt own its id = some (x, ks)) : ∃ cs vs, own[id]? = some (.cells cs) ∧ absO own its cs = some (x, ks) ∧ LRel r cs vs := by
  unfold oboxAt at h
  split at h
  · rename_i cs hr
    have hk := rowAt_some hr rfl
    rcases hR.blk id _ (List.getElem?_eq_some_iff.1 hk).1 hk rfl with ⟨b, C, _, ⟨vs, e, fz, _, m2, _⟩, _⟩ | ⟨_, t, e⟩
    · exact ⟨cs, vs, hk, h, m2⟩
    · cases e
  · cases h

theorem stands_tail {k : Nat} {i : Option Nat} {is : Ids} {b : Blk} {bs : List Blk} (h : Stands ids E k (i :: is) (b :: bs)) : Stands ids E (k + 1) is bs := fun j hj => by
  have := h (j + 1) (by simp only [List.length_cons]; omega)
  rw [show k + 1 + j = k + (j + 1) by omega]
  simpa using this

theorem stands_left {k : Nat} {is js : Ids} {as bs : List Blk} (h : Stands ids E k (is ++ js) (as ++ bs)) (hl : is.length = as.length) : Stands ids E k is as ∧ Stands ids E (k + as.length) js bs := by
  refine ⟨fun j hj => ?_, fun j hj => ?_⟩
  · have := h j (by simp; omega)
    rwa [List.getElem?_append_left (by omega), List.getElem?_append_left hj] at this
  · have := h (as.length + j) (by simp; omega)
    rw [List.getElem?_append_right (by omega), List.getElem?_append_right (by omega)] at this
    rw [show k + as.length + j = k + (as.length + j) by omega]
    rwa [show as.length + j - is.length = j by omega, show as.length + j - as.length = j by omega] at this

def AllItems (r : Res) (own : List Blk) (ids : Ids) (E : List Blk) (is : Ids) (bs : List Blk) : Prop := is.length = bs.length ∧ ∀ (j : Nat) (i : Option Nat) (k : Blk), is[j]? = some i → bs[j]? = some k → Item r own ids E i k

theorem AllItems.cons {is : Ids} {bs : List Blk} {i : Option Nat} {k : Blk} (h : AllItems r own ids E is bs) (h0 : Item r own ids E i k) : AllItems r own ids E (i :: is) (k :: bs) := by
  refine ⟨by simp [h.1], fun j i' k' h1 h2 => ?_⟩
  cases j with
  | zero => simp at h1 h2; subst h1 h2; exact h0
  | succ j => exact h.2 j i' k' (by simpa using h1) (by simpa using h2)

theorem AllItems.append {is js : Ids} {as bs : List Blk} (h : AllItems r own ids E is as) (h' : AllItems r own ids E js bs) : AllItems r own ids E (is ++ js) (as ++ bs) := by
  refine ⟨by simp [h.1, h'.1], fun j i k h1 h2 => ?_⟩
  rcases Nat.lt_or_ge j is.length with hj | hj
  · rw [List.getElem?_append_left hj] at h1
    rw [List.getElem?_append_left (by rw [← h.1]; exact hj)] at h2
    exact h.2 j i k h1 h2
  · rw [List.getElem?_append_right hj] at h1
    rw [List.getElem?_append_right (by rw [← h.1]; exact hj), ← h.1] at h2
    exact h'.2 _ i k h1 h2

theorem len2 : ∀ {L : List (Nat × Lay)} {x : lden L} {is js : Ids}, absL own ρ L = some (x, is, js) → js.length = (encB2 L x).length
  | [], x, is, js, h => by have h : some ((), ([] : Ids), ([] : Ids)) = some ((x : Unit), is, js) := h; cases h; rfl
  | (_, .val _) :: L, x, is, js, h => len2 (L := L) (absL_val h).2
  | (_, .rf _ _) :: L, x, is, js, h => len2 (L := L) (absL_rf h).2
  | (_, .lit _) :: L, x, is, js, h => len2 (L := L) (absL_lit h).2
  | (_, .clo _ _) :: L, x, is, js, h => len2 (L := L) (absL_clo h)
  | (_, .al _ _) :: L, x, is, js, h => len2 (L := L) (absL_al h).2
  | (_, .ags its) :: L, x, is, js, h => by
    obtain ⟨cs, ks, js', _, rfl, h1, h2⟩ := absL_ags h
    have : ks.length = nO its := absO_len h1
    show (ks ++ js').length = (rowsO its x.1 ++ encB2 L x.2).length
    rw [List.length_append, List.length_append, len2 (L := L) h2, this, nO_rows]
  | (_, .box _) :: L, x, is, js, h => by obtain ⟨_, _, _, _, _, h2⟩ := absL_box h; exact len2 (L := L) h2
  | (_, .cbox _ _) :: L, x, is, js, h => by obtain ⟨_, _, _, _, _, h2⟩ := absL_cbox h; exact len2 (L := L) h2
  | (_, .row _) :: L, x, is, js, h => by obtain ⟨_, _, _, _, h2⟩ := absL_row h; exact len2 (L := L) h2
  | (_, .blk _ _) :: L, x, is, js, h => by obtain ⟨_, _, _, h2⟩ := absL_blk h; exact len2 (L := L) h2
  | (_, .bdead _) :: L, x, is, js, h => by obtain ⟨_, _, h2⟩ := absL_bdead h; exact len2 (L := L) h2
  | (_, .obx its) :: L, x, is, js, h => by
    obtain ⟨id, is', ks, js', _, _, rfl, h1, h2⟩ := absL_obx h
    have : ks.length = nO its := by unfold oboxAt at h1; split at h1; exact absO_len h1; cases h1
    show (ks ++ js').length = (rowsO its x.1 ++ encB2 L x.2).length
    rw [List.length_append, List.length_append, len2 (L := L) h2, this, nO_rows]
  | (_, .oblk _ its) :: L, x, is, js, h => by
    obtain ⟨is', ks, js', _, rfl, h1, h2⟩ := absL_oblk h
    have : ks.length = nO its := by unfold oboxAt at h1; split at h1; exact absO_len h1; cases h1
    show (ks ++ js').length = (rowsO its x.1 ++ encB2 L x.2).length
    rw [List.length_append, List.length_append, len2 (L := L) h2, this, nO_rows]

theorem absL_items {P : Program} {w0 : Base P} {M : Nat → Prop} {w : World} (hR : Rel w0 M (Sn own) own r w) (hs : SRel r ρ tm) : ∀ {L : List (Nat × Lay)} {x : lden L} {is js : Ids} {m : Nat}, absL own ρ L = some (x, is, js) → (∀ j ∈ ptsL L, ids[j]? = some (some j) ∧ j < E.length) → Stands ids E m js (encB2 L x) →
    AllItems r own ids E is (encB1 L x m) ∧ AllItems r own ids E js (encB2 L x)
  | [], x, is, js, m, h, _, _ => by
    have h : some ((), ([] : Ids), ([] : Ids)) = some ((x : Unit), is, js) := h
    cases h
    exact ⟨⟨rfl, fun j i k h => by simp at h⟩, rfl, fun j i k h => by simp at h⟩
  | (s, .val t) :: L, x, is, js, m, h, hp, hst => absL_items (L := L) hR hs (absL_val h).2 hp hst
  | (s, .rf i o) :: L, x, is, js, m, h, hp, hst => absL_items (L := L) hR hs (absL_rf h).2 hp hst
  | (s, .lit v) :: L, x, is, js, m, h, hp, hst => absL_items (L := L) hR hs (absL_lit h).2 hp hst
  | (s, .clo f ks) :: L, x, is, js, m, h, hp, hst => absL_items (L := L) hR hs (absL_clo h) hp hst
  | (s, .al _ _) :: L, x, is, js, m, h, hp, hst => absL_items (L := L) hR hs (absL_al h).2 hp hst
  | (s, .ags its) :: L, x, is, js, m, h, hp, hst => by
    obtain ⟨cs, ks, js', hρ, rfl, h1, h2⟩ := absL_ags h
    have hlen : ks.length = (rowsO its x.1).length := by rw [absO_len h1, nO_rows]
    obtain ⟨s1, s2⟩ := stands_left (show Stands ids E m (ks ++ js') (rowsO its x.1 ++ encB2 L x.2) from hst) hlen
    rw [nO_rows] at s2
    obtain ⟨k1, k2⟩ := absL_items (L := L) hR hs h2 (fun j hj => hp j (List.mem_append_right _ hj)) s2
    have hv : VRel r (ρ s) (tm.getD s Go.undef) := (hs s).plain (by rw [hρ]; rfl)
    rw [hρ] at hv
    simp only [VRel] at hv
    obtain ⟨vs, _, q3⟩ := hv
    exact ⟨k1, AllItems.append ⟨hlen, rowsO_items hR h1 q3⟩ k2⟩
  | (s, .box t) :: L, x, is, js, m, h, hp, hst => by
    obtain ⟨id, is', _, rfl, h1, h2⟩ := absL_box h
    obtain ⟨k1, k2⟩ := absL_items (L := L) hR hs h2 hp hst
    obtain ⟨cs, q1, q2⟩ := boxAt_some (r := r) h1
    exact ⟨k1.cons (.inl ⟨id, cs, _, rfl, q1, rfl, fun r' hg vs hv => noOwn_relL hg.H _ _ (noOwn_enc t x.1) (q2 vs hv)⟩), k2⟩
  | (s, .cbox f t) :: L, x, is, js, m, h, hp, hst => by
    obtain ⟨id, is', _, rfl, h1, h2⟩ := absL_cbox h
    obtain ⟨k1, k2⟩ := absL_items (L := L) hR hs h2 hp hst
    obtain ⟨cs, q1, q2⟩ := boxAt_some (r := r) h1
    exact ⟨k1.cons (.inl ⟨id, cs, _, rfl, q1, rfl, fun r' hg vs hv => noOwn_relL hg.H _ _ (noOwn_enc t x.1) (q2 vs hv)⟩), k2⟩
  | (s, .blk id t) :: L, x, is, js, m, h, hp, hst => by
    obtain ⟨is', rfl, h1, h2⟩ := absL_blk h
    obtain ⟨k1, k2⟩ := absL_items (L := L) hR hs h2 hp hst
    obtain ⟨cs, q1, q2⟩ := boxAt_some (r := r) h1
    exact ⟨k1.cons (.inl ⟨id, cs, _, rfl, q1, rfl, fun r' hg vs hv => noOwn_relL hg.H _ _ (noOwn_enc t x.1) (q2 vs hv)⟩), k2⟩
  | (s, .bdead id) :: L, x, is, js, m, h, hp, hst => by
    obtain ⟨is', rfl, h2⟩ := absL_bdead h
    obtain ⟨k1, k2⟩ := absL_items (L := L) hR hs h2 hp hst
    exact ⟨k1.cons (.inr (.inr (.inr (.inl rfl)))), k2⟩
  | (s, .obx its) :: L, x, is, js, m, h, hp, hst => by
    obtain ⟨id, is', ks, js', _, rfl, rfl, h1, h2⟩ := absL_obx h
    obtain ⟨cs, vs0, q1, q2, q3⟩ := obox_cells hR h1
    have hlen : ks.length = (rowsO its x.1).length := by rw [absO_len q2, nO_rows]
    obtain ⟨s1, s2⟩ := stands_left (show Stands ids E m (ks ++ js') (rowsO its x.1 ++ encB2 L x.2) from hst) hlen
    rw [nO_rows] at s2
    obtain ⟨k1, k2⟩ := absL_items (L := L) hR hs h2 (fun j hj => hp j (List.mem_append_right _ hj)) s2
    refine ⟨AllItems.cons k1 (.inl ⟨id, cs, _, rfl, q1, rfl, fun r' hg vs hv => cellsO_rel hR hg q2 (fun j hj => hp j (List.mem_append_left _ hj)) s1 hv⟩), AllItems.append ⟨hlen, rowsO_items hR q2 q3⟩ k2⟩
  | (s, .oblk id its) :: L, x, is, js, m, h, hp, hst => by
    obtain ⟨is', ks, js', rfl, rfl, h1, h2⟩ := absL_oblk h
    obtain ⟨cs, vs0, q1, q2, q3⟩ := obox_cells hR h1
    have hlen : ks.length = (rowsO its x.1).length := by rw [absO_len q2, nO_rows]
    obtain ⟨s1, s2⟩ := stands_left (show Stands ids E m (ks ++ js') (rowsO its x.1 ++ encB2 L x.2) from hst) hlen
    rw [nO_rows] at s2
    obtain ⟨k1, k2⟩ := absL_items (L := L) hR hs h2 (fun j hj => hp j (List.mem_append_right _ hj)) s2
    refine ⟨AllItems.cons k1 (.inl ⟨id, cs, _, rfl, q1, rfl, fun r' hg vs hv => cellsO_rel hR hg q2 (fun j hj => hp j (List.mem_append_left _ hj)) s1 hv⟩), AllItems.append ⟨hlen, rowsO_items hR q2 q3⟩ k2⟩
  | (s, .row t) :: L, x, is, js, m, h, hp, hst => by
    obtain ⟨i, is', rfl, h1, h2⟩ := absL_row h
    obtain ⟨k1, k2⟩ := absL_items (L := L) hR hs h2 hp hst
    refine ⟨AllItems.cons k1 ?_, k2⟩
    have hsl := hs s
    by_cases hw : isWhen (ρ s) = true
    · cases hρ : ρ s <;> rw [hρ] at hw <;> simp [isWhen] at hw
      rw [hρ] at h1; simp [rowOf] at h1
    · exact (rowOf_some hR h1 (hsl.plain (by simpa using hw))).1

def AlsIn (r' : Res) (tm : Array Value) (L : List (Nat × Lay)) (x : lden L) : Prop := ∀ s k t n, (s, k, t, n) ∈ alsOf L x → VRel r' (.osl t k 0 n none) (tm.getD s Go.undef)

theorem absL_slots {P : Program} {w0 : Base P} {M : Nat → Prop} {w : World} {n0 : Nat} (hR : Rel w0 M (Sn own) own r w) (hs : SRel r ρ tm) (hle : r.leN n0 r') (hg : Good r r' ids E) : ∀ {L : List (Nat × Lay)} {x : lden L} {is js : Ids} {k m : Nat}, absL own ρ L = some (x, is, js) → (∀ j ∈ ptsL L, ids[j]? = some (some j) ∧ j < E.length) →
    (∀ s i o, (s, Lay.rf i o) ∈ L → i < n0) → (∀ s f ks, (s, Lay.clo f ks) ∈ L → VRel r' (.clo f [] (ks.map fun k => .ref k 0)) (tm.getD s Go.undef)) → Stands ids E k is (encB1 L x m) → Stands ids E m js (encB2 L x) → AlsIn r' tm L x → ∀ s v, (s, v) ∈ encS L x k m → VRel r' v (tm.getD s Go.undef)
  | [], x, is, js, k, m, h, hp, hn, hq, hst, hs2, hA => by intro s v hm; simp [encS] at hm
  | (s, .val t) :: L, x, is, js, k, m, h, hp, hn, hq, hst, hs2, hA => by
    obtain ⟨h1, h2⟩ := absL_val h
    intro s' v hm
    rcases List.mem_cons.1 (show (s', v) ∈ (s, t.av x.1) :: encS L x.2 k m from hm) with hm | hm
    · cases hm
      refine noOwn_rel hg.H _ _ (noOwn_av t x.1) (av_rel h1 ((hs s).plain ?_))
      cases hρ : ρ s <;> first | rfl | skip
      rw [hρ] at h1
      cases t <;> simp [Ty.decP, whole1, Ty.dec, errOf] at h1
    · exact absL_slots (L := L) hR hs hle hg h2 hp (fun s i o hm => hn s i o (by simp [hm])) (fun s f ks hm => hq s f ks (by simp [hm])) hst hs2 hA s' v hm
  | (s, .rf i o) :: L, x, is, js, k, m, h, hp, hn, hq, hst, hs2, hA => by
    obtain ⟨hρ, h2⟩ := absL_rf h
    intro s' v hm
    rcases List.mem_cons.1 (show (s', v) ∈ (s, AV.ref i o) :: encS L x k m from hm) with hm | hm
    · cases hm
      have := hs s
      rw [hρ] at this
      have this : VRel r (.ref i o) _ := this
      simp only [VRel] at this ⊢
      obtain ⟨b, C, e1, e2⟩ := this
      exact ⟨b, C, hle.ι _ _ (hn s i o (by simp)) e1, e2⟩
    · exact absL_slots (L := L) hR hs hle hg h2 hp (fun s i o hm => hn s i o (by simp [hm])) (fun s f ks hm => hq s f ks (by simp [hm])) hst hs2 hA s' v hm
  | (s, .lit v0) :: L, x, is, js, k, m, h, hp, hn, hq, hst, hs2, hA => by
    obtain ⟨hl, h2⟩ := absL_lit h
    intro s' v hm
    rcases List.mem_cons.1 (show (s', v) ∈ (s, v0) :: encS L x k m from hm) with hm | hm
    · cases hm
      refine lit_rel hl ((hs s).plain ?_)
      cases hρ : ρ s <;> first | rfl | skip
      rw [hρ] at hl; simp [litEq] at hl
    · exact absL_slots (L := L) hR hs hle hg h2 hp (fun s i o hm => hn s i o (by simp [hm])) (fun s f ks hm => hq s f ks (by simp [hm])) hst hs2 hA s' v hm
  | (s, .clo f ks) :: L, x, is, js, k, m, h, hp, hn, hq, hst, hs2, hA => by
    intro s' v hm
    rcases List.mem_cons.1 (show (s', v) ∈ (s, AV.clo f [] (ks.map fun k => .ref k 0)) :: encS L x k m from hm) with hm | hm
    · cases hm
      exact hq s f ks (by simp)
    · exact absL_slots (L := L) hR hs hle hg (absL_clo h) hp (fun s i o hm => hn s i o (by simp [hm])) (fun s f ks hm => hq s f ks (by simp [hm])) hst hs2 hA s' v hm
  | (s, .box t) :: L, x, is, js, k, m, h, hp, hn, hq, hst, hs2, hA => by
    obtain ⟨id, is', hρ, rfl, h1, h2⟩ := absL_box h
    intro s' v hm
    rcases List.mem_cons.1 (show (s', v) ∈ (s, AV.ref k 0) :: encS L x.2 (k + 1) m from hm) with hm | hm
    · cases hm
      exact here hs hg hρ hst
    · exact absL_slots (L := L) hR hs hle hg h2 hp (fun s i o hm => hn s i o (by simp [hm])) (fun s f ks hm => hq s f ks (by simp [hm])) (stands_tail hst) hs2 hA s' v hm
  | (s, .cbox f t) :: L, x, is, js, k, m, h, hp, hn, hq, hst, hs2, hA => by
    obtain ⟨id, is', hρ, rfl, h1, h2⟩ := absL_cbox h
    intro s' v hm
    rcases List.mem_cons.1 (show (s', v) ∈ (s, AV.clo f [] [.ref k 0]) :: encS L x.2 (k + 1) m from hm) with hm | hm
    · cases hm
      exact hereC hs hg hρ hst
    · exact absL_slots (L := L) hR hs hle hg h2 hp (fun s i o hm => hn s i o (by simp [hm])) (fun s f ks hm => hq s f ks (by simp [hm])) (stands_tail hst) hs2 hA s' v hm
  | (s, .obx its) :: L, x, is, js, k, m, h, hp, hn, hq, hst, hs2, hA => by
    obtain ⟨id, is', ks, js', hρ, rfl, rfl, h1, h2⟩ := absL_obx h
    have hlen : ks.length = (rowsO its x.1).length := by obtain ⟨cs, vs0, q1, q2, q3⟩ := obox_cells hR h1; rw [absO_len q2, nO_rows]
    have s2 := (stands_left (show Stands ids E m (ks ++ js') (rowsO its x.1 ++ encB2 L x.2) from hs2) hlen).2
    rw [nO_rows] at s2
    intro s' v hm
    rcases List.mem_cons.1 (show (s', v) ∈ (s, AV.ref k 0) :: encS L x.2 (k + 1) (m + nO its) from hm) with hm | hm
    · cases hm
      exact here hs hg hρ hst
    · exact absL_slots (L := L) hR hs hle hg h2 (fun j hj => hp j (List.mem_append_right _ hj)) (fun s i o hm => hn s i o (by simp [hm])) (fun s f ks hm => hq s f ks (by simp [hm])) (stands_tail hst) s2 hA s' v hm
  | (s, .blk id t) :: L, x, is, js, k, m, h, hp, hn, hq, hst, hs2, hA => by
    obtain ⟨is', rfl, h1, h2⟩ := absL_blk h
    intro s' v hm
    exact absL_slots (L := L) hR hs hle hg h2 hp (fun s i o hm => hn s i o (by simp [hm])) (fun s f ks hm => hq s f ks (by simp [hm])) (stands_tail hst) hs2 hA s' v hm
  | (s, .oblk id its) :: L, x, is, js, k, m, h, hp, hn, hq, hst, hs2, hA => by
    obtain ⟨is', ks, js', rfl, rfl, h1, h2⟩ := absL_oblk h
    have hlen : ks.length = (rowsO its x.1).length := by obtain ⟨cs, vs0, q1, q2, q3⟩ := obox_cells hR h1; rw [absO_len q2, nO_rows]
    have s2 := (stands_left (show Stands ids E m (ks ++ js') (rowsO its x.1 ++ encB2 L x.2) from hs2) hlen).2
    rw [nO_rows] at s2
    intro s' v hm
    exact absL_slots (L := L) hR hs hle hg h2 (fun j hj => hp j (List.mem_append_right _ hj)) (fun s i o hm => hn s i o (by simp [hm])) (fun s f ks hm => hq s f ks (by simp [hm])) (stands_tail hst) s2 hA s' v hm
  | (s, .bdead id) :: L, x, is, js, k, m, h, hp, hn, hq, hst, hs2, hA => by
    obtain ⟨is', rfl, h2⟩ := absL_bdead h
    intro s' v hm
    exact absL_slots (L := L) hR hs hle hg h2 hp (fun s i o hm => hn s i o (by simp [hm])) (fun s f ks hm => hq s f ks (by simp [hm])) (stands_tail hst) hs2 hA s' v hm
  | (s, .row t) :: L, x, is, js, k, m, h, hp, hn, hq, hst, hs2, hA => by
    obtain ⟨i, is', rfl, h1, h2⟩ := absL_row h
    intro s' v hm
    rcases List.mem_cons.1 (show (s', v) ∈ (s, AV.osl t k 0 x.1.length none) :: encS L x.2 (k + 1) m from hm) with hm | hm
    · cases hm
      have hw : isWhen (ρ s) = false := by
        cases hρ : ρ s <;> first | rfl | skip
        rw [hρ] at h1; simp [rowOf] at h1
      have hs0 := hst 0 (by simp [encB1])
      simp only [Nat.add_zero, encB1, List.getElem?_cons_zero] at hs0
      exact osl_rel hR hg h1 hs0.1 hs0.2 ((hs s).plain hw)
    · exact absL_slots (L := L) hR hs hle hg h2 hp (fun s i o hm => hn s i o (by simp [hm])) (fun s f ks hm => hq s f ks (by simp [hm])) (stands_tail hst) hs2 hA s' v hm
  | (s, .al i t) :: L, x, is, js, k, m, h, hp, hn, hq, hst, hs2, hA => by
    intro s' v hm
    rcases List.mem_cons.1 (show (s', v) ∈ (s, AV.osl t i 0 x.1 none) :: encS L x.2 k m from hm) with hm | hm
    · cases hm
      exact hA s i t x.1 (by simp [alsOf])
    · exact absL_slots (L := L) hR hs hle hg (absL_al h).2 hp (fun s i o hm => hn s i o (by simp [hm])) (fun s f ks hm => hq s f ks (by simp [hm])) hst hs2 (fun s k t n hm => hA s k t n (by simp [alsOf, hm])) s' v hm
  | (s, .ags its) :: L, x, is, js, k, m, h, hp, hn, hq, hst, hs2, hA => by
    obtain ⟨cs, ks, js', hρ, rfl, h1, h2⟩ := absL_ags h
    have hlen : ks.length = (rowsO its x.1).length := by rw [absO_len h1, nO_rows]
    obtain ⟨s1, s2⟩ := stands_left (show Stands ids E m (ks ++ js') (rowsO its x.1 ++ encB2 L x.2) from hs2) hlen
    rw [nO_rows] at s2
    intro s' v hm
    rcases List.mem_cons.1 (show (s', v) ∈ (s, AV.agg (cellsO its x.1 m)) :: encS L x.2 k (m + nO its) from hm) with hm | hm
    · cases hm
      have hv : VRel r (ρ s) (tm.getD s Go.undef) := (hs s).plain (by rw [hρ]; rfl)
      rw [hρ] at hv
      simp only [VRel] at hv ⊢
      obtain ⟨vs, e, q3⟩ := hv
      exact ⟨vs, e, cellsO_rel hR hg h1 (fun j hj => hp j (List.mem_append_left _ hj)) s1 q3⟩
    · exact absL_slots (L := L) hR hs hle hg h2 (fun j hj => hp j (List.mem_append_right _ hj)) (fun s i o hm => hn s i o (by simp [hm])) (fun s f ks hm => hq s f ks (by simp [hm])) hst s2 hA s' v hm
 where
  here {s id k : Nat} {is : Ids} {cs : List AV} {bs : List Blk} (hs : SRel r ρ tm) (hg : Good r r' ids E) (hρ : ρ s = .ref id 0) (hst : Stands ids E k (some id :: is) (.cells cs :: bs)) : VRel r' (.ref k 0) (tm.getD s Go.undef) := by
    have := hs s
    rw [hρ] at this
    have this : VRel r (.ref id 0) _ := this
    simp only [VRel] at this ⊢
    obtain ⟨b, C, e1, e2⟩ := this
    have hs0 := hst 0 (by simp)
    simp only [Nat.add_zero, List.getElem?_cons_zero] at hs0
    have h0 := hg.ι k
    rw [hs0.1, hs0.2] at h0
    simp only [tr] at h0
    exact ⟨b, C, by rw [h0, e1], e2⟩
  hereC {s id k f : Nat} {is : Ids} {cs : List AV} {bs : List Blk} (hs : SRel r ρ tm) (hg : Good r r' ids E) (hρ : ρ s = .clo f [] [.ref id 0]) (hst : Stands ids E k (some id :: is) (.cells cs :: bs)) : VRel r' (.clo f [] [.ref k 0]) (tm.getD s Go.undef) := by
    have := hs s
    rw [hρ] at this
    have this : VRel r (.clo f [] [.ref id 0]) _ := this
    simp only [VRel, LRel] at this ⊢
    obtain ⟨us, ws, e0, k1, v, vs, rfl, ⟨b, C, e1, e2⟩, k2⟩ := this
    have hs0 := hst 0 (by simp)
    simp only [Nat.add_zero, List.getElem?_cons_zero] at hs0
    have h0 := hg.ι k
    rw [hs0.1, hs0.2] at h0
    simp only [tr] at h0
    exact ⟨us, v :: vs, e0, k1, v, vs, rfl, ⟨b, C, by rw [h0, e1], e2⟩, k2⟩

theorem nB_len : ∀ (L : List (Nat × Lay)) (x : lden L) (m : Nat), (encB1 L x m).length = nB L
  | [], _, _ => rfl
  | (_, .val _) :: L, x, m => nB_len L x.2 m
  | (_, .rf _ _) :: L, x, m => nB_len L x m
  | (_, .lit _) :: L, x, m => nB_len L x m
  | (_, .clo _ _) :: L, x, m => nB_len L x m
  | (_, .al _ _) :: L, x, m => nB_len L x.2 m
  | (_, .ags its) :: L, x, m => nB_len L x.2 (m + nO its)
  | (_, .box _) :: L, x, m => by simp [encB1, nB, nB_len L x.2]
  | (_, .cbox _ _) :: L, x, m => by simp [encB1, nB, nB_len L x.2]
  | (_, .row _) :: L, x, m => by simp [encB1, nB, nB_len L x.2]
  | (_, .blk _ _) :: L, x, m => by simp [encB1, nB, nB_len L x.2]
  | (_, .obx _) :: L, x, m => by simp [encB1, nB, nB_len L x.2]
  | (_, .oblk _ _) :: L, x, m => by simp [encB1, nB, nB_len L x.2]
  | (_, .bdead _) :: L, x, m => by simp [encB1, nB, nB_len L x]

end
end Go.Proofs.Pen
