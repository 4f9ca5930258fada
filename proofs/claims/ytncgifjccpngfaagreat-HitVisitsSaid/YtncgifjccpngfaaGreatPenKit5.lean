/- A part of the proof that the law HitVisits is true of every input: an evaluator of the program and its proof. -/
import Derived.LaidLaws
import Derived.LaidHandle
import Derived.LaidEql
import Derived.ChangeVars
import Derived.JoinedOf
import Derived.Stop.Joined
import GoSem.Extern.MathSqrt
import Derived.Shelf.SlSortCmp.NoneTotal
import Derived.Test.YtncgifjccpngfaaGreatPenKit0
import Derived.Test.YtncgifjccpngfaaGreatPenKit1
import Derived.Test.YtncgifjccpngfaaGreatPenKit2
import Derived.Test.YtncgifjccpngfaaGreatPenKit3
import Derived.Test.YtncgifjccpngfaaGreatPenHitVisits4
namespace Go.Proofs.Pen
open Go RowKit

def noS : Nat → Option (St → T (Ex × St)) := fun _ => none
section
variable {P : Program}

def fromBitsAV (args : List AV) : T AV :=
  match args with
  | [.it .u64 n] => .ret (.fl (some n.toNat))
  | _ => .fail
theorem fromBits_ok {g : Nat} (h : ∀ n w, (callFunc g #[.int .u64 n]).run P w = .ok (.value (.float .f64 n.toNat)) w) : ExOK P g fromBitsAV := by
  intro args v hv r w us hl
  unfold fromBitsAV at hv
  split at hv
  · rename_i n
    cases run_ret hv
    simp only [LRel, VRel] at hl
    obtain ⟨u, ws, rfl, rfl, rfl⟩ := hl
    exact ⟨_, w, h n w, .refl w, by simp only [VRel, FRel]⟩
  · exact (run_fail hv).elim

end
end Go.Proofs.Pen

namespace Go.Proofs.Pen
open Go RowKit

def Env.over (ds : List Nat) (ρ ρ' : Env) : Env := fun s => if ds.contains s then ρ' s else match ρ s with
  | .when _ _ _ => .junk
  | v => v

def inL (l : List Nat) (g : Nat) : Bool := l.any fun x => Nat.beq x g

structure Deeps where
  D : List Nat
  C : List Nat := []
  frz : Bool := false
  frc : Bool := false
  S : Nat → Nat → Nat → Option (St → T (Ex × St)) := fun _ _ => noS   -- by the callee, and by how many own blocks there are

def dpCall (P : Program) (X : Deeps) (F : Fns) (g : Nat) (l : List AV) (own : List Blk) : T (AV × List Blk) :=
  if inL X.D g then
    match P.funcs[g]? with
    | some fn => if callable P g && Nat.ble l.length fn.ntmps then runBody P { F with ctrl := inL X.C g } (inL X.D) (X.S g own.length) fn l own else .fail
    | none => .fail
  else .fail

def dp (P : Program) (q : Nat → List AV → T AV) (X : Deeps) (fuel : Nat) : Nat → Fns
  | 0 => { quiet := q, deep := noDeep, fuel := fuel, frz := X.frz, frc := X.frc }
  | d + 1 => { quiet := q, deep := dpCall P X (dp P q X fuel d), fuel := fuel, frz := X.frz, frc := X.frc }

def LoopsOK (P : Program) (S : Nat → Nat → Nat → Option (St → T (Ex × St))) : Prop := ∀ g fn c n, P.funcs[g]? = some fn → fn.body = some c → SOK P n (S g n) c

theorem loops_none (P : Program) : LoopsOK P fun _ _ => noS := fun _ _ c n _ _ => sok_none P n c

def extSn (S : Nat → Nat → Nat → Option (St → T (Ex × St))) (g m : Nat) (s : Nat → Option (St → T (Ex × St))) : Nat → Nat → Nat → Option (St → T (Ex × St)) := fun g' n => if g' = g then (if n = m then s else S g' n) else S g' n

theorem loops_extn {P : Program} {S : Nat → Nat → Nat → Option (St → T (Ex × St))} (hS : LoopsOK P S) {g m : Nat} {fn : Func} {l : List (Nat × (St → T (Ex × St)))} (hfn : P.funcs[g]? = some fn) (h : TabOK P m (codeOf fn) l) : LoopsOK P (extSn S g m (tabS l)) := by
  intro g' fn' c n h1 h2
  unfold extSn
  split
  · rename_i e
    subst e
    split
    · rename_i e2
      subst e2
      rw [hfn] at h1; cases h1
      exact sok_fn h c h2
    · exact hS g' fn' c n h1 h2
  · exact hS g' fn' c n h1 h2

theorem loop_treeN {P : Program} {F : Fns} {D : Nat → Bool} {tab : List (Nat × (St → T (Ex × St)))} (n0 : Nat) (hm : P.follows .mixedOrders = true) (hF : QuietOK P F.quiet) (hD : DeepOK P F.deep) {nt id : Nat} {es : List Ex} {L : List (Nat × Lay)} {c : Code} {t : lden L → T (Ex × lden L)} {g : lden L → Option (Ex × lden L)}
    (hg : ∀ x, g x = (iterT t rounds x).run) (hb : bodies id c = [.loop (loopIn id c)]) (hok : layOK n0 L = true) (hS : TabOK P n0 (loopIn id c) tab) (hrun : ∀ x, roundT P F D (tabS tab) (loopIn id c) L nt x = t x) :
    bodies id c = [.loop (loopIn id c)] ∧ WP P n0 (.block id (.loop (loopIn id c))) (loopS L nt id es g) :=
  ⟨hb, loop_WP hm hF hD hok (sok_tab hS) (fun x y h => by rw [hrun x]; exact h) (fun x y h => ⟨rounds, by rw [← hg x]; exact h⟩)⟩

theorem dp_ok {P : Program} (hm : P.follows .mixedOrders = true) {q : Nat → List AV → T AV} (hq : QuietOK P q) {X : Deeps} (hX : LoopsOK P X.S) (fuel : Nat) : ∀ d, QuietOK P (dp P q X fuel d).quiet ∧ DeepOK P (dp P q X fuel d).deep
  | 0 => ⟨hq, deep_none P⟩
  | d + 1 => by
    obtain ⟨hF, hD⟩ := dp_ok hm hq hX fuel d
    refine ⟨hq, ?_⟩
    intro g args own v own' h
    have h : (dpCall P X (dp P q X fuel d) g args own).run = some (v, own') := h
    unfold dpCall at h
    split at h
    · split at h
      · rename_i fn hfn
        split at h
        · rename_i hc
          simp only [Bool.and_eq_true] at hc
          exact ⟨hc.1, fun w0 M r w us hR hl => body_sound (F := { dp P q X fuel d with ctrl := inL X.C g }) hm hF hD hfn (fun c hb => hX g fn c _ hfn hb) h hR hl (Nat.le_of_ble_eq_true hc.2)⟩
        · exact (run_fail h).elim
      · exact (run_fail h).elim
    · exact (run_fail h).elim

end Go.Proofs.Pen

namespace Go.Proofs.Pen
open Go Go.Proofs Go.ChangeShapes Go.WideShapes Go.RowKit

end Go.Proofs.Pen

namespace Go.Proofs.Pen
open Go RowKit

def peCallK (P : Program) (X : Nat → List AV → T AV) (K : List Nat) (F : Fns) (g : Nat) (l : List AV) : T AV :=
  if inL K g then X g l else
  match P.funcs[g]? with
  | some fn => if callable P g && Nat.ble l.length fn.ntmps then runFn P F (fun h => !inL K h && callable P h) noS fn l else X g l
  | none => .fail
def peDeepK (P : Program) (K : List Nat) (F : Fns) (g : Nat) (l : List AV) (own : List Blk) : T (AV × List Blk) :=
  match P.funcs[g]? with
  | some fn => if callable P g && Nat.ble l.length fn.ntmps then runBody P F (fun h => !inL K h && callable P h) noS fn l own else .fail
  | none => .fail
section
variable {P : Program}

end
end Go.Proofs.Pen

namespace Go.Proofs.Pen
open Go RowKit

def flatT : Ty → Bool
  | .pair a b => flatT a && flatT b
  | .st a => flatT a
  | .sl _ => false
  | .ptr _ => false
  | .clo _ _ => false
  | _ => true

theorem flat_rel {H H' : Addr → Option Value} : ∀ (t : Ty) (x : t.den) (vs : List Value), flatT t = true → TRel H t x vs → TRel H' t x vs
  | .int _, _, _, _, h => h
  | .bool, _, _, _, h => h
  | .str, _, _, _, h => h
  | .flt, _, _, _, h => h
  | .unit, _, _, _, h => h
  | .pair a b, x, _, hf, h => by
    simp only [flatT, Bool.and_eq_true] at hf
    obtain ⟨us, ws, e, h1, h2⟩ := h
    exact ⟨us, ws, e, flat_rel a _ _ hf.1 h1, flat_rel b _ _ hf.2 h2⟩
  | .st a, x, vs, hf, h => flat_rel a x vs hf h
  | .sl _, _, _, hf, _ => by cases hf
  | .ptr _, _, _, hf, _ => by cases hf
  | .clo _ _, _, _, hf, _ => by cases hf
  | .er _ _, _, _, _, h => h
  | .ifi _ _, _, _, _, h => h

def isSlice : AV → Bool
  | .sl _ _ => true
  | .slx _ _ => true
  | .osl _ _ _ _ _ => true
  | .nilsl => true
  | _ => false

def cloneD (t : Ty) (bt : Nat) (args : List AV) (own : List Blk) : T (AV × List Blk) :=
  match args with
  | [v] => if isSlice v then (match listOf own t v with
    | some xs => .ite (decide (xs.length * bt ≤ most)) (.ret (.osl t own.length 0 xs.length none, own ++ [.row t xs])) .fail
    | none => .fail) else .fail
  | _ => .fail

theorem listOf_all {P : Program} {w0 : Base P} {M : Nat → Prop} {own : List Blk} {r : Res} {w : World} (hR : Rel w0 M (Sn own) own r w) {t : Ty} {v : AV} {u : Value} {xs : List t.den} (hs : isSlice v = true) (h : listOf own t v = some xs) (hv : VRel r v u) :
    ∃ p c, u = .slice p xs.length c ∧ xs.length ≤ c ∧ ElemsAt (Res.all w).H (TRel (Res.all w).H t) t.sz xs p := by
  have hmono : r.H = r.H := rfl
  have hH : ∀ a v, r.H a = some v → (Res.all w).H a = some v := fun a v e => hR.pers a v e
  unfold listOf at h
  split at h
  · simp only [VRel] at hv; subst hv; cases h
    exact ⟨none, 0, rfl, Nat.le_refl _, fun hn => absurd rfl hn⟩
  · split at h
    · rename_i ht; subst ht; cases h
      simp only [VRel] at hv
      obtain ⟨p, c, rfl, hl, he⟩ := hv
      exact ⟨p, c, rfl, hl, he.mono hH (TRel.mono hH _)⟩
    · cases h
  · split at h
    · rename_i ht; subst ht; cases h
      simp only [VRel] at hv
      obtain ⟨p, rfl, he⟩ := hv
      exact ⟨p, _, rfl, Nat.le_refl _, he.mono hH (TRel.mono hH _)⟩
    · cases h
  · rename_i t' id off len cap
    split at h
    · rename_i t'' ys hrow
      split at h
      · rename_i ht2
        split at h
        · rename_i ht
          subst ht
          subst ht2
          cases h
          have hf : AV.frz own 6 (.osl t'' id off len cap) = .sl t'' (((castSl rfl ys).drop off).take len) := by
            simp only [AV.frz, AV.frzW, hrow]
            rw [dif_pos trivial]
          have := frz_rel (rb := Res.all w) hR (fun _ _ => rfl) hR.pers (fun _ _ _ _ _ _ _ _ _ e => e) 6 _ _ hv
          rw [hf] at this
          simp only [VRel] at this
          exact this
        · cases h
      · cases h
    · cases h
  · simp [isSlice] at hs
  · cases h

theorem clone_deep {P : Program} {F : Fns} {D : Nat → Bool} {S : Nat → Option (St → T (Ex × St))} (hm : P.follows .mixedOrders = true) (hF : QuietOK P F.quiet) (hD : DeepOK P F.deep) {g : FuncId} {fn : Func} (hfn : P.funcs[g]? = some fn) (hc : callable P g = true)
    (hS : ∀ c, fn.body = some c → SOK P 0 S c) (hn : Nat.ble 1 fn.ntmps = true) {t : Ty} (hft : flatT t = true) {bt : Nat} (h1 : ∀ v, (runBody P F D S fn [.nsl true v] []).run = some (.nilsl, []))
    (h2 : ∀ xs : List t.den, (runBody P F D S fn [.nsl false (.sl t xs)] []).run = (T.ite (decide ((0 + xs.length) * bt ≤ most)) (.ret (.osl t 1 0 (0 + xs.length) none, [.dead, .row t xs])) .fail).run) :
    ∀ args own v own', (cloneD t bt args own).run = some (v, own') → callable P g = true ∧ ∀ (w0 : Base P) (M : Nat → Prop) (r : Res) (w : World) (us : List Value), Rel w0 M (Sn own) own r w → LRel r args us →
      Calls P g us.toArray w fun e w' => ∃ u r', e = .returned u ∧ r.le r' ∧ Rel w0 M (Sn own') own' r' w' ∧ VRel r' v u := by
  intro args own v own' h
  refine ⟨hc, fun w0 M r w us hR hl => ?_⟩
  unfold cloneD at h
  split at h
  · rename_i x
    split at h
    · rename_i hs
      split at h
      · rename_i xs hx
        rcases run_ite h with ⟨hb, h⟩ | ⟨_, h⟩
        · cases run_ret h
          simp only [LRel] at hl
          obtain ⟨u, ws, rfl, hu, rfl⟩ := hl
          obtain ⟨p, c, rfl, hle, he⟩ := listOf_all hR hs hx hu
          have hbase : ∀ a u, (Res.all w).H a = some u → w.cell? a = some u := fun _ _ e => e
          have hR0 : Rel (P := P) ⟨w, (Res.all w).H, fun _ => False⟩ (fun _ => False) (Sn []) [] (Res.all w) w :=
            ⟨rfl, rfl, .refl _, Nat.le_refl _, fun _ _ _ => rfl, hbase, fun id k hs => by unfold Sn at hs; simp at hs, fun i j k l b C C' hi => by unfold Sn at hi; simp at hi, fun i _ => rfl, fun a v e => .inl e, fun i h => h.elim, fun a v e => hR.pers a v (hR.glob a v e)⟩
          have below : ∀ {own1 : List Blk} {r1 : Res} {w' : World}, Rel (P := P) ⟨w, (Res.all w).H, fun _ => False⟩ (fun _ => False) (Sn own1) own1 r1 w' → Below w.heap.size w w' := fun k => ⟨k.os, k.tape, k.output, k.size, fun b hb => k.base b hb (fun h => h)⟩
          have stay : ∀ {w' : World}, Below w.heap.size w w' → Rel w0 M (Sn own) own r w' := fun {w'} hb => by
            have := hR.below (H' := r.H) hb (fun _ _ e => e) (fun a v e => ?_) (fun _ _ e => .inl e)
            · exact this
            · have hc := hR.pers a v e
              have hlt : a.block < w.heap.size := by
                rcases Nat.lt_or_ge a.block w.heap.size with h | h
                · exact h
                · simp [World.cell?, Array.getElem?_eq_none h] at hc
              rw [← hc]
              exact World.cell?_of_block (hb.block _ hlt)
          have hid : (own ++ [Blk.row t xs])[own.length]? = some (.row t xs) := by simp
          have hns : ¬ Sn own own.length := by unfold Sn; omega
          have grow : ∀ {w' : World}, Rel w0 M (Sn own) own r w' → Rel w0 M (Sn own) (own ++ [Blk.row t xs]) r w' := fun {w'} k => by
            have hag : ∀ i, Sn own i → (own ++ [Blk.row t xs])[i]? = own[i]? := fun i hi => by rw [List.getElem?_append_left (show i < own.length from hi)]
            exact { os := k.os, tape := k.tape, output := k.output, size := k.size, base := k.base, pers := k.pers,
                    blk := fun i b hs hi hl => k.blk i b hs (by rw [← hag i hs]; exact hi) hl,
                    inj := fun i j b1 b2 b C C' hi hj e1 e2 => k.inj i j b1 b2 b C C' hi hj (by rw [← hag i hi]; exact e1) (by rw [← hag j hj]; exact e2),
                    dom := k.dom, up := k.up, zero := k.zero, glob := k.glob }
          have hSn : ∀ i, (Sn own i ∨ i = own.length) ↔ Sn (own ++ [Blk.row t xs]) i := fun i => by
            unfold Sn; simp only [List.length_append, List.length_cons, List.length_nil]; omega
          cases p with
          | none =>
            have hxs : xs = [] := by
              apply Classical.byContradiction
              intro hne
              obtain ⟨ad, e, _⟩ := he hne
              cases e
            subst hxs
            have hargs : LRel (Res.all w) [.nsl true (.sl t [])] [.slice none ([] : List t.den).length c] := by
              simp only [LRel, VRel]
              exact ⟨_, [], rfl, ⟨⟨none, c, rfl, hle, fun hn => absurd rfl hn⟩, none, _, c, rfl, rfl⟩, rfl⟩
            refine (body_sound (own := []) hm hF hD hfn hS (h1 (.sl t [])) hR0 hargs (Nat.le_of_ble_eq_true hn)).mono ?_
            rintro e w' ⟨u, r1, rfl, k1, k2, k3⟩
            simp only [VRel] at k3
            subst k3
            refine ⟨_, r, rfl, .refl r, ((grow (stay (below k2))).emptyRow (id := own.length) (t := t) hns hid).congr hSn, ?_⟩
            simp only [VRel]
            exact ⟨none, 0, rfl, Nat.le_refl _, fun c' h => (by cases h), .inl (by simp)⟩
          | some ad =>
            have hargs : LRel (Res.all w) [.nsl false (.sl t xs)] [.slice (some ad) xs.length c] := by
              simp only [LRel, VRel]
              exact ⟨_, [], rfl, ⟨⟨some ad, c, rfl, hle, he⟩, some ad, _, c, rfl, rfl⟩, rfl⟩
            have hrun : (runBody P F D S fn [.nsl false (.sl t xs)] []).run = some (.osl t 1 0 (0 + xs.length) none, [.dead, .row t xs]) := by
              rw [h2 xs]
              have hb' : decide ((0 + xs.length) * bt ≤ most) = true := by rw [Nat.zero_add]; exact hb
              simp only [T.run, hb', if_true]
            refine (body_sound (own := []) hm hF hD hfn hS hrun hR0 hargs (Nat.le_of_ble_eq_true hn)).mono ?_
            rintro e w' ⟨u, r1, rfl, k1, k2, k3⟩
            rw [Nat.zero_add] at k3
            have hb1 := below k2
            have base := grow (stay hb1)
            rcases k2.blk 1 (.row t xs) (by unfold Sn; simp) rfl rfl with ⟨b, C, e1, ⟨vs, ty, fz, q1, q2, q3, q4, q5, q6⟩, e3, e4⟩ | ⟨e1, t', e2⟩
            · have hge : w.heap.size ≤ b := by
                rcases e3 with e3 | e3
                · exact e3.elim
                · exact e3
              have hbn : ∀ a v, r.H a = some v → a.block ≠ b := fun a v ha hab => by
                have hc := hR.pers a v ha
                have hlt : a.block < w.heap.size := by
                  rcases Nat.lt_or_ge a.block w.heap.size with h | h
                  · exact h
                  · simp [World.cell?, Array.getElem?_eq_none h] at hc
                omega
              have hlive : ∀ i k b' C', Sn own i → (own ++ [Blk.row t xs])[i]? = some k → isLive k = true → r.ι i = some (b', C') → b' < w.heap.size := fun i k b' C' hi hk hl hι => by
                have hi' : i < own.length := hi
                rw [List.getElem?_append_left hi'] at hk
                rcases hR.blk i k hi hk hl with ⟨b2, C2, f1, f2, _, _⟩ | ⟨f1, _⟩
                · rw [hι] at f1; cases f1
                  cases k with
                  | cells cs => obtain ⟨vs', e', fz', g1, _⟩ := f2; exact (Array.getElem?_eq_some_iff.1 g1).1
                  | row t' ys => obtain ⟨vs', e', fz', g1, _⟩ := f2; exact (Array.getElem?_eq_some_iff.1 g1).1
                  | dead => cases hl
                  | mp l => obtain ⟨es', c', g1, _⟩ := f2; exact (Array.getElem?_eq_some_iff.1 g1).1
                · rw [hι] at f1; cases f1
              let r' : Res := { H := r.H, ι := fun i => if i = own.length then some (b, C) else r.ι i }
              have hle' : r.le r' := ⟨fun _ _ e => e, fun i p e => by
                show (if i = own.length then _ else r.ι i) = _
                rw [if_neg (fun hi => by subst hi; rw [hR.dom _ hns] at e; cases e)]; exact e⟩
              have hι : ∀ i, i ≠ own.length → r'.ι i = r.ι i := fun i hi => by show (if i = own.length then _ else r.ι i) = _; rw [if_neg hi]
              have hιn : r'.ι own.length = some (b, C) := by show (if own.length = own.length then _ else _) = _; rw [if_pos rfl]
              refine ⟨u, r', rfl, hle', ?_, ?_⟩
              · have key : Rel w0 M (fun i => Sn own i ∨ i = own.length) (own ++ [Blk.row t xs]) r' w' :=
                  { os := base.os, tape := base.tape, output := base.output, size := base.size, base := base.base, pers := base.pers,
                    blk := fun i k hs hi hl => by
                      rcases hs with hs | rfl
                      · have hne : i ≠ own.length := by have : i < own.length := hs; omega
                        rcases base.blk i k hs hi hl with ⟨b2, C2, f1, f2, f3, f4⟩ | ⟨f1, f2⟩
                        · exact .inl ⟨b2, C2, by rw [hι i hne]; exact f1, f2.mono hle', f3, f4⟩
                        · exact .inr ⟨by rw [hι i hne]; exact f1, f2⟩
                      · rw [hid] at hi; cases hi
                        exact .inl ⟨b, C, hιn, ⟨vs, ty, fz, q1, q2, q3, q4, q5, fun j y hj => by
                          obtain ⟨us', g1, g2, g3⟩ := q6 j y hj
                          exact ⟨us', g1, flat_rel t _ _ hft g2, g3⟩⟩, .inr (Nat.le_trans hR.size hge), hbn⟩
                    inj := fun i j k l b' C1 C2 hi hj hk hl' f1 f2 g1 g2 => by
                      by_cases hi' : i = own.length
                      · by_cases hj' : j = own.length
                        · rw [hi', hj']
                        · exfalso
                          subst hi'
                          rw [hιn] at g1; cases g1
                          rw [hι j hj'] at g2
                          have := hlive j l b C2 (by rcases hj with hj | hj; exact hj; exact absurd hj hj') hl' f2 g2
                          omega
                      · by_cases hj' : j = own.length
                        · exfalso
                          subst hj'
                          rw [hιn] at g2; cases g2
                          rw [hι i hi'] at g1
                          have := hlive i k b C1 (by rcases hi with hi | hi; exact hi; exact absurd hi hi') hk f1 g1
                          omega
                        · rw [hι i hi'] at g1
                          rw [hι j hj'] at g2
                          exact base.inj i j k l b' C1 C2 (by rcases hi with hi | hi; exact hi; exact absurd hi hi') (by rcases hj with hj | hj; exact hj; exact absurd hj hj') hk hl' f1 f2 g1 g2
                    dom := fun i hi => by
                      rw [hι i (fun h => hi (.inr h))]
                      exact base.dom i fun h => hi (.inl h)
                    up := base.up
                    zero := fun i hi => by
                      obtain ⟨z1, z2⟩ := base.zero i hi
                      have hne : i ≠ own.length := by have : i < own.length := z1; omega
                      exact ⟨.inl z1, by rw [hι i hne]; exact z2⟩
                    glob := base.glob }
                exact key.congr hSn
              · simp only [VRel] at k3 ⊢
                obtain ⟨p, c', rfl, g1, g2, g3⟩ := k3
                refine ⟨p, c', rfl, g1, g2, ?_⟩
                rcases g3 with g3 | ⟨b2, C2, f1, f2, f3, f4⟩
                · exact .inl g3
                · rw [e1] at f1; cases f1
                  exact .inr ⟨b, C, hιn, f2, f3, f4⟩
            · have hxs : xs = [] := by cases e2; rfl
              subst hxs
              simp only [VRel] at k3
              obtain ⟨p, c', rfl, g1, g2, g3⟩ := k3
              have hc0 : c' = 0 := by
                rcases g3 with ⟨_, g3⟩ | ⟨b2, C2, f1, _⟩
                · exact g3
                · rw [e1] at f1; cases f1
              subst hc0
              refine ⟨_, r, rfl, .refl r, (base.emptyRow (id := own.length) (t := t) hns hid).congr hSn, ?_⟩
              simp only [VRel]
              exact ⟨p, 0, rfl, Nat.le_refl _, fun c' h => (by cases h), .inl (by simp)⟩
        · exact (run_fail h).elim
      · exact (run_fail h).elim
    · exact (run_fail h).elim
  · exact (run_fail h).elim
end Go.Proofs.Pen

namespace Go.Proofs.Pen
open Go RowKit

abbrev DTab := Nat → Option (List AV → List Blk → T (AV × List Blk))
def TBOK (P : Program) (TB : DTab) : Prop := ∀ g c, TB g = some c → ∀ args own v own', (c args own).run = some (v, own') → callable P g = true ∧ ∀ (w0 : Base P) (M : Nat → Prop) (r : Res) (w : World) (us : List Value), Rel w0 M (Sn own) own r w → LRel r args us →
      Calls P g us.toArray w fun e w' => ∃ u r', e = .returned u ∧ r.le r' ∧ Rel w0 M (Sn own') own' r' w' ∧ VRel r' v u
def tbNone : DTab := fun _ => none
def tbExt (TB : DTab) (g : Nat) (c : List AV → List Blk → T (AV × List Blk)) : DTab := fun g' => if g' = g then some c else TB g'
theorem tb_none (P : Program) : TBOK P tbNone := fun _ _ h => by cases h
theorem tb_ext {P : Program} {TB : DTab} (h : TBOK P TB) {g : Nat} {c : List AV → List Blk → T (AV × List Blk)}
    (hc : ∀ args own v own', (c args own).run = some (v, own') → callable P g = true ∧ ∀ (w0 : Base P) (M : Nat → Prop) (r : Res) (w : World) (us : List Value), Rel w0 M (Sn own) own r w → LRel r args us →
      Calls P g us.toArray w fun e w' => ∃ u r', e = .returned u ∧ r.le r' ∧ Rel w0 M (Sn own') own' r' w' ∧ VRel r' v u) : TBOK P (tbExt TB g c) := by
  intro g' c' e
  unfold tbExt at e
  split at e
  · rename_i hg; subst hg; cases e; exact hc
  · exact h g' c' e

def tabD (TB : DTab) (q : Nat → List AV → List Blk → T (AV × List Blk)) (g : Nat) (l : List AV) (own : List Blk) : T (AV × List Blk) :=
  match TB g with
  | some c => c l own
  | none => q g l own

theorem tabD_ok {P : Program} {TB : DTab} (hT : TBOK P TB) {q : Nat → List AV → List Blk → T (AV × List Blk)} (hq : DeepOK P q) : DeepOK P (tabD TB q) := by
  intro g args own v own' h
  unfold tabD at h
  split at h
  · rename_i c hc; exact hT g c hc args own v own' h
  · exact hq g args own v own' h

def dpT (P : Program) (q : Nat → List AV → T AV) (X : Deeps) (TB : DTab) (fuel : Nat) : Nat → Fns
  | 0 => { quiet := q, deep := tabD TB noDeep, fuel := fuel, frz := X.frz, frc := X.frc }
  | d + 1 => { quiet := q, deep := tabD TB (dpCall P X (dpT P q X TB fuel d)), fuel := fuel, frz := X.frz, frc := X.frc }

theorem dpT_ok {P : Program} (hm : P.follows .mixedOrders = true) {q : Nat → List AV → T AV} (hq : QuietOK P q) {X : Deeps} (hX : LoopsOK P X.S) {TB : DTab} (hT : TBOK P TB) (fuel : Nat) : ∀ d, QuietOK P (dpT P q X TB fuel d).quiet ∧ DeepOK P (dpT P q X TB fuel d).deep
  | 0 => ⟨hq, tabD_ok hT (deep_none P)⟩
  | d + 1 => by
    obtain ⟨hF, hD⟩ := dpT_ok hm hq hX hT fuel d
    refine ⟨hq, tabD_ok hT ?_⟩
    intro g args own v own' h
    have h : (dpCall P X (dpT P q X TB fuel d) g args own).run = some (v, own') := h
    unfold dpCall at h
    split at h
    · split at h
      · rename_i fn hfn
        split at h
        · rename_i hc
          simp only [Bool.and_eq_true] at hc
          exact ⟨hc.1, fun w0 M r w us hR hl => body_sound (F := { dpT P q X TB fuel d with ctrl := inL X.C g }) hm hF hD hfn (fun c hb => hX g fn c _ hfn hb) h hR hl (Nat.le_of_ble_eq_true hc.2)⟩
        · exact (run_fail h).elim
      · exact (run_fail h).elim
    · exact (run_fail h).elim

def peT (P : Program) (X : Nat → List AV → T AV) (K : List Nat) (TB : DTab) (fuel : Nat) : Nat → Fns
  | 0 => { quiet := X, deep := tabD TB noDeep, fuel := fuel }
  | d + 1 => { quiet := peCallK P X K (peT P X K TB fuel d), deep := tabD TB (peDeepK P K (peT P X K TB fuel d)), fuel := fuel, closed := true }

theorem peT_ok {P : Program} (hm : P.follows .mixedOrders = true) {X : Nat → List AV → T AV} (hX : QuietOK P X) (K : List Nat) {TB : DTab} (hT : TBOK P TB) (fuel : Nat) : ∀ d, QuietOK P (peT P X K TB fuel d).quiet ∧ DeepOK P (peT P X K TB fuel d).deep
  | 0 => ⟨hX, tabD_ok hT (deep_none P)⟩
  | d + 1 => by
    obtain ⟨hF, hD⟩ := peT_ok hm hX K hT fuel d
    refine ⟨?_, tabD_ok hT ?_⟩
    · intro g args v h
      have h : (peCallK P X K (peT P X K TB fuel d) g args).run = some v := h
      unfold peCallK at h
      split at h
      · exact hX g args v h
      · split at h
        · rename_i fn hfn
          split at h
          · rename_i hc
            simp only [Bool.and_eq_true] at hc
            exact .inl ⟨hc.1, fun r w us hι hp hgl hl => fn_sound hm hF hD hfn (fun c _ => sok_none P 0 c) h (Nat.le_of_ble_eq_true hc.2) r w us hι hp hgl hl⟩
          · exact hX g args v h
        · exact (run_fail h).elim
    · intro g args own v own' h
      have h : (peDeepK P K (peT P X K TB fuel d) g args own).run = some (v, own') := h
      unfold peDeepK at h
      split at h
      · rename_i fn hfn
        split at h
        · rename_i hc
          simp only [Bool.and_eq_true] at hc
          exact ⟨hc.1, fun w0 M r w us hR hl => body_sound hm hF hD hfn (fun c _ => sok_none P _ c) h hR hl (Nat.le_of_ble_eq_true hc.2)⟩
        · exact (run_fail h).elim
      · exact (run_fail h).elim

theorem peT_entry {P : Program} (hm : P.follows .mixedOrders = true) {X : Nat → List AV → T AV} (hX : QuietOK P X) (K : List Nat) {TB : DTab} (hT : TBOK P TB) (fuel d : Nat) {g : FuncId} {fn : Func} (hfn : P.funcs[g]? = some fn) (hc : callable P g = true) {rs : List Ty} {y : dens rs} (h : (runT P (peT P X K TB fuel d) (fun h => !inL K h && callable P h) noS fn [] (decR rs)).force.run = some y) :
    FnOK P g (entry [] (outR rs) fun _ => .ret y) := by
  obtain ⟨hF, hD⟩ := peT_ok hm hX K hT fuel d
  refine entry_ok hm hF hD (F := peT P X K TB fuel d) (D := fun h => !inL K h && callable P h) (S := noS) hfn hc (fun c _ => sok_none P 0 c) (fun r v y u => decR_rel) rfl fun x z hz => ?_
  cases run_ret hz
  exact force_run h
end Go.Proofs.Pen

namespace Go.Proofs.Pen
open Go RowKit

mutual
def freshAV : AV → Bool
  | .osl t _ _ _ _ => flatT t
  | .agg cs => freshL cs
  | .tup cs => freshL cs
  | v => scalar v
def freshL : List AV → Bool
  | [] => true
  | v :: l => freshAV v && freshL l
end

mutual
theorem scalar_frz {r rF : Res} {own : List Blk} {g : Nat → Nat → AV} : ∀ (v : AV) (u : Value), scalar v = true → VRel r v u → VRel rF (AV.frzW own g v) u
  | .junk, _, _, k => by simp [VRel, AV.frzW]
  | .undef, _, _, k => by simpa [VRel, AV.frzW] using k
  | .tt, _, _, k => by simpa [VRel, AV.frzW] using k
  | .ff, _, _, k => by simpa [VRel, AV.frzW] using k
  | .bo _, _, _, k => by simpa [VRel, AV.frzW] using k
  | .it _ _, _, _, k => by simpa [VRel, AV.frzW] using k
  | .sr _, _, _, k => by simpa [VRel, AV.frzW] using k
  | .fl _, _, _, k => by simpa [VRel, AV.frzW] using k
  | .agg cs, _, n, k => by
    simp only [VRel, scalar, AV.frzW] at k n ⊢
    obtain ⟨vs, e, k⟩ := k
    exact ⟨vs, e, scalar_frzL cs vs n k⟩
  | .tup cs, _, n, k => by
    simp only [VRel, scalar, AV.frzW] at k n ⊢
    obtain ⟨vs, e, k⟩ := k
    exact ⟨vs, e, scalar_frzL cs vs n k⟩
  | .sl _ _, _, n, _ => by simp [scalar] at n
  | .slx _ _, _, n, _ => by simp [scalar] at n
  | .osl _ _ _ _ _, _, n, _ => by simp [scalar] at n
  | .ref _ _, _, n, _ => by simp [scalar] at n
  | .rel _ _ _ _, _, n, _ => by simp [scalar] at n
  | .ptr _, _, n, _ => by simp [scalar] at n
  | .nilp, _, _, k => by simpa [VRel, AV.frzW] using k
  | .nilf, _, _, k => by simpa [VRel, AV.frzW] using k
  | .nili, _, _, k => by simpa [VRel, AV.frzW] using k
  | .nilsl, _, _, k => by simpa [VRel, AV.frzW] using k
  | .hnd _ _, _, _, k => by simpa [VRel, AV.frzW] using k
  | .clo f a c, _, n, k => by
    simp only [VRel, scalar, Bool.and_eq_true, AV.frzW] at k n ⊢
    obtain ⟨us, ws, e, k1, k2⟩ := k
    exact ⟨us, ws, e, scalar_frzL a us n.1 k1, scalar_frzL c ws n.2 k2⟩
  | .ifc t x, _, n, k => by
    simp only [VRel, scalar, AV.frzW] at k n ⊢
    obtain ⟨u, e, k⟩ := k
    exact ⟨u, e, scalar_frz x u n k⟩
  | .when _ _ _, _, n, _ => by simp [scalar] at n
  | .er _ _ _, _, _, k => by simpa [VRel, AV.frzW] using k
  | .nsl b v, u, n, k => by
    simp only [VRel, scalar, AV.frzW] at k n ⊢
    exact scalar_frz v u n k.1
  | .mpr _, _, n, _ => by simp [scalar] at n
theorem scalar_frzL {r rF : Res} {own : List Blk} {g : Nat → Nat → AV} : ∀ (cs : List AV) (vs : List Value), scalarL cs = true → LRel r cs vs → LRel rF (AV.frzL own g cs) vs
  | [], _, _, k => by simp only [LRel, AV.frzL] at k ⊢; exact k
  | c :: cs, _, n, k => by
    simp only [LRel, scalarL, Bool.and_eq_true, AV.frzL] at k n ⊢
    obtain ⟨v, ws, e, k1, k2⟩ := k
    exact ⟨v, ws, e, scalar_frz c v n.1 k1, scalar_frzL cs ws n.2 k2⟩
end

section
variable {P : Program} {w0 : Base P} {w : World} {own : List Blk} {r rF : Res} {g : Nat → Nat → AV}

theorem fresh_osl (hR : Rel w0 (fun _ => False) (Sn own) own r w) (hF : ∀ a x, w.cell? a = some x → w0.heap.size ≤ a.block → rF.H a = some x) {t : Ty} {id off len : Nat} {cap : Option Nat} {u : Value} (hf : flatT t = true) (k : VRel r (.osl t id off len cap) u) : VRel rF (AV.frzW own g (.osl t id off len cap)) u := by
  unfold AV.frzW
  split
  · rename_i t' xs hrow
    split
    · rename_i ht
      subst ht
      simp only [VRel] at k ⊢
      obtain ⟨p, c, rfl, k1, k2, k3⟩ := k
      have hid := rowAt_live (own := own) (ownF := own) (fun _ _ => rfl) hrow rfl
      rcases k3 with ⟨k3, k4⟩ | ⟨b, C, e1, rfl, e3, e4⟩
      · subst k3 k4
        simp only [List.take_zero, List.length_nil]
        exact ⟨p, 0, rfl, Nat.le_refl _, fun hn => absurd rfl hn⟩
      · rcases hR.blk id _ (List.getElem?_eq_some_iff.1 hid).1 hid rfl with ⟨b', C', q1, q2, q3, q4⟩ | ⟨q1, _⟩
        · rw [e1] at q1; cases q1
          obtain ⟨hxl, hel⟩ := hR.row (ownF := own) (own := own) (fun _ _ => rfl) hrow e1
          have hge : w0.heap.size ≤ b := by rcases q3 with q3 | q3; exact q3.elim; exact q3
          have hl : (((castSl rfl xs).drop off).take len).length = len := by
            show ((xs.drop off).take len).length = len
            rw [List.length_take, List.length_drop]; omega
          refine ⟨_, c, by rw [hl], by rw [hl]; exact k1, fun _ => ⟨_, rfl, fun i x hx => ?_⟩⟩
          have hx : ((xs.drop off).take len)[i]? = some x := hx
          rw [List.getElem?_take] at hx
          split at hx
          · rw [List.getElem?_drop] at hx
            obtain ⟨us, l1, l2, l3⟩ := hel (off + i) x hx
            refine ⟨us, l1, flat_rel t' x us hf l2, fun j v hj => ?_⟩
            have := l3 j v hj
            rw [add_none, add_none] at *
            rw [Nat.add_mul] at this
            exact hF _ _ this hge
          · cases hx
        · rw [e1] at q1; cases q1
    · simp [VRel]
  · simp [VRel]

mutual
theorem fresh_rel (hR : Rel w0 (fun _ => False) (Sn own) own r w) (hF : ∀ a x, w.cell? a = some x → w0.heap.size ≤ a.block → rF.H a = some x) : ∀ (v : AV) (u : Value), freshAV v = true → VRel r v u → VRel rF (AV.frzW own g v) u
  | .osl t id off len cap, u, hf, k => fresh_osl hR hF (by simpa [freshAV] using hf) k
  | .agg cs, _, n, k => by
    simp only [VRel, freshAV, AV.frzW] at k n ⊢
    obtain ⟨vs, e, k⟩ := k
    exact ⟨vs, e, fresh_relL hR hF cs vs n k⟩
  | .tup cs, _, n, k => by
    simp only [VRel, freshAV, AV.frzW] at k n ⊢
    obtain ⟨vs, e, k⟩ := k
    exact ⟨vs, e, fresh_relL hR hF cs vs n k⟩
  | .junk, u, n, k => scalar_frz _ u (by simpa [freshAV] using n) k
  | .undef, u, n, k => scalar_frz _ u (by simpa [freshAV] using n) k
  | .tt, u, n, k => scalar_frz _ u (by simpa [freshAV] using n) k
  | .ff, u, n, k => scalar_frz _ u (by simpa [freshAV] using n) k
  | .bo _, u, n, k => scalar_frz _ u (by simpa [freshAV] using n) k
  | .it _ _, u, n, k => scalar_frz _ u (by simpa [freshAV] using n) k
  | .sr _, u, n, k => scalar_frz _ u (by simpa [freshAV] using n) k
  | .fl _, u, n, k => scalar_frz _ u (by simpa [freshAV] using n) k
  | .sl _ _, u, n, k => scalar_frz _ u (by simpa [freshAV] using n) k
  | .slx _ _, u, n, k => scalar_frz _ u (by simpa [freshAV] using n) k
  | .ref _ _, u, n, k => scalar_frz _ u (by simpa [freshAV] using n) k
  | .rel _ _ _ _, u, n, k => scalar_frz _ u (by simpa [freshAV] using n) k
  | .ptr _, u, n, k => scalar_frz _ u (by simpa [freshAV] using n) k
  | .nilp, u, n, k => scalar_frz _ u (by simpa [freshAV] using n) k
  | .nilf, u, n, k => scalar_frz _ u (by simpa [freshAV] using n) k
  | .nili, u, n, k => scalar_frz _ u (by simpa [freshAV] using n) k
  | .nilsl, u, n, k => scalar_frz _ u (by simpa [freshAV] using n) k
  | .hnd _ _, u, n, k => scalar_frz _ u (by simpa [freshAV] using n) k
  | .clo _ _ _, u, n, k => scalar_frz _ u (by simpa [freshAV] using n) k
  | .ifc _ _, u, n, k => scalar_frz _ u (by simpa [freshAV] using n) k
  | .when _ _ _, u, n, k => scalar_frz _ u (by simpa [freshAV] using n) k
  | .er _ _ _, u, n, k => scalar_frz _ u (by simpa [freshAV] using n) k
  | .nsl _ _, u, n, k => scalar_frz _ u (by simpa [freshAV] using n) k
  | .mpr _, u, n, k => scalar_frz _ u (by simpa [freshAV] using n) k
theorem fresh_relL (hR : Rel w0 (fun _ => False) (Sn own) own r w) (hF : ∀ a x, w.cell? a = some x → w0.heap.size ≤ a.block → rF.H a = some x) : ∀ (cs : List AV) (vs : List Value), freshL cs = true → LRel r cs vs → LRel rF (AV.frzL own g cs) vs
  | [], _, _, k => by simp only [LRel, AV.frzL] at k ⊢; exact k
  | c :: cs, _, n, k => by
    simp only [LRel, freshL, Bool.and_eq_true, AV.frzL] at k n ⊢
    obtain ⟨v, ws, e, k1, k2⟩ := k
    exact ⟨v, ws, e, fresh_rel hR hF c v n.1 k1, fresh_relL hR hF cs ws n.2 k2⟩
end
end

def FrOK (P : Program) (g : Nat) (c : List AV → T AV) : Prop := ∀ args v, (c args).run = some v → callable P g = true ∧ ∀ (r : Res) (w : World) (us : List Value), (∀ i, r.ι i = none) → (∀ a u, r.H a = some u → w.cell? a = some u) → (∀ a u, globOf P a = some u → r.H a = some u) → LRel r args us →
    Calls P g us.toArray w fun e w' => ∃ u r', e = .returned u ∧ Below w.heap.size w w' ∧ (∀ a x, r'.H a = some x → w'.cell? a = some x ∧ w.heap.size ≤ a.block) ∧ (∀ i, r'.ι i = none) ∧ VRel r' v u

def runFr (P : Program) (F : Fns) (D : Nat → Bool) (S : Nat → Option (St → T (Ex × St))) (fn : Func) (args : List AV) {ρ : Type} (dec : AV → Option ρ) : T ρ :=
  (runBody P F D S fn args []).bind fun x => if freshAV x.1 then optT (dec (AV.frz x.2 6 x.1)) else .fail

theorem entry_fresh {P : Program} {F : Fns} {D : Nat → Bool} {S : Nat → Option (St → T (Ex × St))} {ps rs : List Ty} {t : dens ps → T (dens rs)} (hm : P.follows .mixedOrders = true) (hF : QuietOK P F.quiet) (hD : DeepOK P F.deep) {g : FuncId} {fn : Func} (hfn : P.funcs[g]? = some fn) (hc : callable P g = true)
    (hS : ∀ c, fn.body = some c → SOK P 0 S c) (hn : Nat.ble ps.length fn.ntmps = true) (h : ∀ x, runFr P F D S fn (encs ps x) (decR rs) = t x) {q : List AV → T AV} (hq : ∀ args v, (q args).run = some v → (entry ps (outR rs) t args).run = some v) : FrOK P g q := by
  intro args v hv
  refine ⟨hc, fun r w us hι hp hgl hl => ?_⟩
  have hv := hq args v hv
  unfold entry at hv
  split at hv
  · rename_i x hx
    obtain ⟨y, h1, h2⟩ := run_bind hv
    have := run_ret h2; subst this
    rw [← h x] at h1
    unfold runFr at h1
    obtain ⟨⟨v0, own'⟩, h3, h4⟩ := run_bind h1
    dsimp only at h4
    split at h4
    · rename_i hfr
      have h4 := run_optT h4
      have hR : Rel (P := P) ⟨w, r.H, fun _ => False⟩ (fun _ => False) (Sn []) [] r w :=
        ⟨rfl, rfl, .refl _, Nat.le_refl _, fun _ _ _ => rfl, hp, fun id k hs => by unfold Sn at hs; simp at hs, fun i j k l b C C' hi => by unfold Sn at hi; simp at hi, fun i _ => hι i, fun a v e => .inl e, fun i h => h.elim, hgl⟩
      refine (body_sound (own := []) hm hF hD hfn hS h3 hR (decs_rel hx hl) (by rw [encs_length]; exact Nat.le_of_ble_eq_true hn)).mono ?_
      rintro e w' ⟨u, r', rfl, k1, k2, k3⟩
      have hb : Below w.heap.size w w' := ⟨k2.os, k2.tape, k2.output, k2.size, fun b hb => k2.base b hb (fun h => h)⟩
      let rF : Res := { H := fun a => if w.heap.size ≤ a.block then w'.cell? a else none, ι := fun _ => none }
      refine ⟨u, rF, rfl, hb, fun a x e => ?_, fun _ => rfl, decR_rel h4 ?_⟩
      · have e : (if w.heap.size ≤ a.block then w'.cell? a else none) = some x := e
        split at e
        · rename_i hge; exact ⟨e, hge⟩
        · cases e
      · have hFF : ∀ a x, w'.cell? a = some x → w.heap.size ≤ a.block → rF.H a = some x := fun a x e hge => by
          show (if w.heap.size ≤ a.block then w'.cell? a else none) = some x
          rw [if_pos hge]; exact e
        exact fresh_rel k2 hFF v0 u hfr k3
    · exact (run_fail h4).elim
  · exact (run_fail hv).elim

theorem entry_run {ps rs : List Ty} {t : dens ps → T (dens rs)} (args : List AV) (v : AV) (h : (entry ps (outR rs) (fun x => .opt (t x).run .ret) args).run = some v) : (entry ps (outR rs) t args).run = some v := by
  unfold entry at h ⊢
  split at h
  · rename_i x hx
    obtain ⟨y, h1, h2⟩ := run_bind h
    cases run_ret h2
    obtain ⟨z, h3, h4⟩ := run_opt h1
    cases run_ret h4
    show ((t x).bind fun y => T.ret (outR rs y)).run = _
    rw [tr_bind, h3]; rfl
  · exact (run_fail h).elim

def freshD (c : List AV → T AV) (args : List AV) (own : List Blk) : T (AV × List Blk) := (c (args.map (AV.frz own 6))).bind fun x => .ret (x, own)

theorem fresh_deep {P : Program} {g : Nat} {c : List AV → T AV} (h : FrOK P g c) : ∀ args own v own', (freshD c args own).run = some (v, own') → callable P g = true ∧ ∀ (w0 : Base P) (M : Nat → Prop) (r : Res) (w : World) (us : List Value), Rel w0 M (Sn own) own r w → LRel r args us →
      Calls P g us.toArray w fun e w' => ∃ u r', e = .returned u ∧ r.le r' ∧ Rel w0 M (Sn own') own' r' w' ∧ VRel r' v u := by
  intro args own v own' hv
  obtain ⟨x, h1, h2⟩ := run_bind hv
  cases run_ret h2
  obtain ⟨hc, hk⟩ := h _ _ h1
  refine ⟨hc, fun w0 M r w us hR hl => ?_⟩
  have hl2 : LRel (Res.all w) (args.map (AV.frz own 6)) us := LRel.map' (fun v u k => frz_rel (rb := Res.all w) hR (fun _ _ => rfl) hR.pers (fun _ _ _ _ _ _ _ _ _ e => e) 6 v u k) hl
  refine (hk (Res.all w) w us (fun _ => rfl) (fun _ _ e => e) (fun a u e => hR.pers a u (hR.glob a u e)) hl2).mono ?_
  rintro e w' ⟨u, r1, rfl, hb, k1, k2, k3⟩
  have hlt : ∀ {a v}, r.H a = some v → a.block < w.heap.size := fun {a v} e => by
    have hc := hR.pers a v e
    rcases Nat.lt_or_ge a.block w.heap.size with h | h
    · exact h
    · simp [World.cell?, Array.getElem?_eq_none h] at hc
  let r2 : Res := { H := fun a => if a.block < w.heap.size then r.H a else r1.H a, ι := r.ι }
  have hle : r.le r2 := ⟨fun a v e => by
    show (if a.block < w.heap.size then r.H a else r1.H a) = _
    rw [if_pos (hlt e)]; exact e, fun _ _ e => e⟩
  have hle1 : r1.le r2 := ⟨fun a v e => by
    show (if a.block < w.heap.size then r.H a else r1.H a) = _
    rw [if_neg (Nat.not_lt.2 (k1 a v e).2)]; exact e, fun i p e => by rw [k2] at e; cases e⟩
  refine ⟨u, r2, rfl, hle, hR.below (H' := r2.H) hb hle.H (fun a v e => ?_) (fun a v e => ?_), k3.mono hle1⟩
  · have e : (if a.block < w.heap.size then r.H a else r1.H a) = some v := e
    split at e
    · rename_i hlt'
      rw [← hR.pers a v e]
      exact World.cell?_of_block (hb.block _ hlt')
    · exact (k1 a v e).1
  · have e : (if a.block < w.heap.size then r.H a else r1.H a) = some v := e
    split at e
    · exact .inl e
    · exact .inr (k1 a v e).2
end Go.Proofs.Pen

namespace Go.Proofs.Pen
open Go RowKit

end Go.Proofs.Pen

namespace Go.Proofs.Pen
open Go RowKit

end Go.Proofs.Pen

namespace Go.Proofs.Pen
open Go RowKit

mutual
def AV.ren (f : Nat → Nat) : AV → AV
  | .osl t id off len c => .osl t (f id) off len c
  | .ref id off => .ref (f id) off
  | .rel t id ix off => .rel t (f id) ix off
  | .agg cs => .agg (AV.renL f cs)
  | .tup cs => .tup (AV.renL f cs)
  | .ptr cs => .ptr (AV.renL f cs)
  | .clo g a c => .clo g (AV.renL f a) (AV.renL f c)
  | .ifc t v => .ifc t (AV.ren f v)
  | .when _ _ _ => .junk
  | .nsl b v => .nsl b (AV.ren f v)
  | .mpr id => .mpr (f id)
  | v => v
def AV.renL (f : Nat → Nat) : List AV → List AV
  | [] => []
  | v :: l => AV.ren f v :: AV.renL f l
end
def renB (f : Nat → Nat) : Blk → Blk
  | .cells cs => .cells (AV.renL f cs)
  | b => b
theorem renB_live {f : Nat → Nat} {k : Blk} : isLive (renB f k) = isLive k := by cases k <;> rfl

mutual
theorem ren_rel {r r' : Res} {f : Nat → Nat} (hH : ∀ a v, r.H a = some v → r'.H a = some v) : ∀ (v : AV) (u : Value), (∀ i, i ∈ v.ids → ∀ p, r.ι i = some p → r'.ι (f i) = some p) → VRel r v u → VRel r' (v.ren f) u
  | .junk, _, _, _ => by simp [AV.ren, VRel]
  | .undef, _, _, k => by simpa [AV.ren, VRel] using k
  | .tt, _, _, k => by simpa [AV.ren, VRel] using k
  | .ff, _, _, k => by simpa [AV.ren, VRel] using k
  | .bo _, _, _, k => by simpa [AV.ren, VRel] using k
  | .it _ _, _, _, k => by simpa [AV.ren, VRel] using k
  | .sr _, _, _, k => by simpa [AV.ren, VRel] using k
  | .fl _, _, _, k => by simpa [AV.ren, VRel] using k
  | .agg cs, _, n, k => by
    simp only [AV.ren, VRel, AV.ids] at k n ⊢
    obtain ⟨vs, e, k⟩ := k
    exact ⟨vs, e, ren_relL hH cs vs n k⟩
  | .tup cs, _, n, k => by
    simp only [AV.ren, VRel, AV.ids] at k n ⊢
    obtain ⟨vs, e, k⟩ := k
    exact ⟨vs, e, ren_relL hH cs vs n k⟩
  | .sl t xs, _, _, k => by
    simp only [AV.ren, VRel] at k ⊢
    obtain ⟨p, c, e, l, k⟩ := k
    exact ⟨p, c, e, l, k.mono hH (TRel.mono hH t)⟩
  | .slx t xs, _, _, k => by
    simp only [AV.ren, VRel] at k ⊢
    obtain ⟨p, e, k⟩ := k
    exact ⟨p, e, k.mono hH (TRel.mono hH t)⟩
  | .osl t id off len cap, _, n, k => by
    simp only [AV.ren, VRel, AV.ids] at k n ⊢
    obtain ⟨p, c, e, l, hc, k⟩ := k
    refine ⟨p, c, e, l, hc, ?_⟩
    rcases k with k | ⟨b, C, e1, k⟩
    · exact .inl k
    · exact .inr ⟨b, C, n id (by simp) _ e1, k⟩
  | .ref id off, _, n, k => by
    simp only [AV.ren, VRel, AV.ids] at k n ⊢
    obtain ⟨b, C, e1, k⟩ := k
    exact ⟨b, C, n id (by simp) _ e1, k⟩
  | .rel t id ix off, _, n, k => by
    simp only [AV.ren, VRel, AV.ids] at k n ⊢
    obtain ⟨b, C, e1, k⟩ := k
    exact ⟨b, C, n id (by simp) _ e1, k⟩
  | .ptr cs, _, n, k => by
    simp only [AV.ren, VRel, AV.ids] at k n ⊢
    obtain ⟨p, us, e, k1, k2⟩ := k
    exact ⟨p, us, e, ren_relL hH cs us n k1, k2.mono hH⟩
  | .nilp, _, _, k => by simpa [AV.ren, VRel] using k
  | .nilf, _, _, k => by simpa [AV.ren, VRel] using k
  | .nili, _, _, k => by simpa [AV.ren, VRel] using k
  | .nilsl, _, _, k => by simpa [AV.ren, VRel] using k
  | .hnd _ _, _, _, k => by simpa [AV.ren, VRel] using k
  | .clo g a c, _, n, k => by
    simp only [AV.ren, VRel, AV.ids, List.mem_append] at k n ⊢
    obtain ⟨us, ws, e, k1, k2⟩ := k
    exact ⟨us, ws, e, ren_relL hH a us (fun i hi => n i (.inl hi)) k1, ren_relL hH c ws (fun i hi => n i (.inr hi)) k2⟩
  | .ifc t v, _, n, k => by
    simp only [AV.ren, VRel, AV.ids] at k n ⊢
    obtain ⟨u, e, k⟩ := k
    exact ⟨u, e, ren_rel hH v u n k⟩
  | .when _ _ _, _, _, k => by simp [VRel] at k
  | .er _ _ _, _, _, k => by simpa [AV.ren, VRel] using k
  | .nsl b v, u, n, k => by
    simp only [AV.ren, VRel, AV.ids] at k n ⊢
    exact ⟨ren_rel hH v u n k.1, k.2⟩
  | .mpr id, _, n, k => by
    simp only [AV.ren, VRel, AV.ids] at k n ⊢
    obtain ⟨b, C, e1, k⟩ := k
    exact ⟨b, C, n id (by simp) _ e1, k⟩
theorem ren_relL {r r' : Res} {f : Nat → Nat} (hH : ∀ a v, r.H a = some v → r'.H a = some v) : ∀ (cs : List AV) (vs : List Value), (∀ i, i ∈ AV.idsL cs → ∀ p, r.ι i = some p → r'.ι (f i) = some p) → LRel r cs vs → LRel r' (AV.renL f cs) vs
  | [], _, _, k => by simpa [AV.renL, LRel] using k
  | c :: cs, _, n, k => by
    simp only [AV.renL, LRel, AV.idsL, List.mem_append] at k n ⊢
    obtain ⟨v, ws, e, k1, k2⟩ := k
    exact ⟨v, ws, e, ren_rel hH c v (fun i hi => n i (.inl hi)) k1, ren_relL hH cs ws (fun i hi => n i (.inr hi)) k2⟩
end

theorem Rel.renum {P : Program} {w0 : Base P} {M : Nat → Prop} {own own2 : List Blk} {r r2 : Res} {w : World} (h : Rel w0 M (Sn own) own r w) (Z : Nat → Prop) (f τ : Nat → Nat) (hH : r2.H = r.H)
    (hblk : ∀ i k, own2[i]? = some k → isLive k = true → ∃ k0, own[τ i]? = some k0 ∧ k = renB f k0 ∧ r2.ι i = r.ι (τ i) ∧ (∀ cs, k0 = .cells cs → ∀ j, j ∈ AV.idsL cs → ∀ p, r.ι j = some p → r2.ι (f j) = some p))
    (hinj : ∀ i j k l, own2[i]? = some k → own2[j]? = some l → isLive k = true → isLive l = true → τ i = τ j → i = j)
    (hdom : ∀ i, own2.length ≤ i → r2.ι i = none) (hz : ∀ i, Z i → i < own2.length ∧ r2.ι i = none) : Rel (P := P) ({ w0 with Z := Z } : Base P) M (Sn own2) own2 r2 w := by
  have hb : ∀ {b C k0}, (∀ cs, k0 = Blk.cells cs → ∀ j, j ∈ AV.idsL cs → ∀ p, r.ι j = some p → r2.ι (f j) = some p) → BRel r w b C k0 → BRel r2 w b C (renB f k0) := by
    intro b C k0 hi hb
    cases k0 with
    | cells cs => obtain ⟨vs, e, fz, h1, h2, h3⟩ := hb; exact ⟨vs, e, fz, h1, ren_relL (fun a v e => by rw [hH]; exact e) _ _ (hi cs rfl) h2, h3⟩
    | row t xs =>
      obtain ⟨vs, e, fz, h1, h2, h2', h3, h4, h5⟩ := hb
      exact ⟨vs, e, fz, h1, h2, h2', h3, h4, fun i x hx => by
        obtain ⟨us, k1, k2, k3⟩ := h5 i x hx
        exact ⟨us, k1, by rw [hH]; exact k2, k3⟩⟩
    | dead => trivial
    | mp l => exact hb
  constructor
  · exact h.os
  · exact h.tape
  · exact ⟨h.output.out, h.output.drawn⟩
  · exact h.size
  · exact h.base
  · intro a v e; rw [hH] at e; exact h.pers a v e
  · intro id k hs hk hl
    obtain ⟨k0, e0, rfl, e1, e2⟩ := hblk id k hk hl
    rw [renB_live] at hl
    rcases h.blk (τ id) k0 (List.getElem?_eq_some_iff.1 e0).1 e0 hl with ⟨b, C, q1, q2, q3, q4⟩ | ⟨q1, t, q2⟩
    · exact .inl ⟨b, C, by rw [e1]; exact q1, hb e2 q2, q3, fun a v e => q4 a v (by rw [hH] at e; exact e)⟩
    · exact .inr ⟨by rw [e1]; exact q1, t, by rw [q2]; rfl⟩
  · intro i j k l b C C' hi hj hk hl lk ll e1 e2
    obtain ⟨k0, d0, rfl, d1, _⟩ := hblk i k hk lk
    obtain ⟨l0, g0, rfl, g1, _⟩ := hblk j l hl ll
    refine hinj i j _ _ hk hl lk ll ?_
    rw [renB_live] at lk ll
    exact h.inj (τ i) (τ j) k0 l0 b C C' (List.getElem?_eq_some_iff.1 d0).1 (List.getElem?_eq_some_iff.1 g0).1 d0 g0 lk ll (by rw [← d1]; exact e1) (by rw [← g1]; exact e2)
  · intro i hi
    exact hdom i (Nat.le_of_not_lt hi)
  · intro a v e; rw [hH] at e; exact h.up a v e
  · intro i hi
    exact hz i hi
  · intro a v e; rw [hH]; exact h.glob a v e

def posN : List Nat → Nat → Nat → Option Nat
  | [], _, _ => none
  | a :: l, id, j => match Nat.beq a id with
    | true => some j
    | false => posN l id (j + 1)
theorem posN_some : ∀ {l : List Nat} {id j k : Nat}, posN l id j = some k → j ≤ k ∧ l[k - j]? = some id
  | [], _, _, _, h => by simp [posN] at h
  | a :: l, id, j, k, h => by
    unfold posN at h
    split at h
    · rename_i e
      cases h
      rw [Nat.eq_of_beq_eq_true e]
      exact ⟨Nat.le_refl _, by simp⟩
    · obtain ⟨h1, h2⟩ := posN_some h
      refine ⟨by omega, ?_⟩
      rw [show k - j = (k - (j + 1)) + 1 by omega]
      exact h2
theorem posN_none : ∀ {l : List Nat} {id j : Nat}, posN l id j = none → id ∉ l
  | [], _, _, _ => by simp
  | a :: l, id, j, h => by
    unfold posN at h
    split at h
    · cases h
    · rename_i e
      intro hm
      rcases List.mem_cons.1 hm with rfl | hm
      · simp at e
      · exact posN_none h hm
def onceN : List Nat → Bool
  | [] => true
  | a :: l => !inL l a && onceN l
theorem inL_mem {l : List Nat} {a : Nat} : inL l a = true ↔ a ∈ l := by
  unfold inL
  rw [List.any_eq_true]
  constructor
  · rintro ⟨x, h1, h2⟩; rw [← Nat.eq_of_beq_eq_true h2]; exact h1
  · intro h; exact ⟨a, h, by simp⟩
theorem posN_at : ∀ {l : List Nat} {k id : Nat} (j : Nat), onceN l = true → l[k]? = some id → posN l id j = some (j + k)
  | [], k, id, j, _, h => by simp at h
  | a :: l, 0, id, j, _, h => by
    simp at h; subst h
    simp [posN]
  | a :: l, k + 1, id, j, h1, h => by
    simp only [onceN, Bool.and_eq_true, Bool.not_eq_true'] at h1
    have h : l[k]? = some id := by simpa using h
    unfold posN
    split
    · rename_i e
      have e := Nat.eq_of_beq_eq_true e
      subst e
      have := inL_mem.2 (List.mem_of_getElem? h)
      rw [h1.1] at this; cases this
    · rw [posN_at (j + 1) h1.2 h]; congr 1; omega

def inR (s0 : List Nat) (id : Nat) : Nat := match posN s0 id 0 with
  | some j => j
  | none => s0.length + id
def outB (s0 : List Nat) (len id : Nat) : Nat := match s0[id]? with
  | some i => i
  | none => len + (id - s0.length)
def isCellsB : Blk → Bool
  | .cells _ => true
  | _ => false
def insOf (own : List Blk) (s0 : List Nat) : List Nat := s0.flatMap fun i => match rowAt own i with
  | .cells cs => AV.idsL cs
  | _ => []
def farU (s0 in1 : List Nat) (n : Nat) : List Nat := (List.range n).filter fun i => !(inL s0 i || inL in1 i)
def ownIn (s0 : List Nat) (own : List Blk) : List Blk := s0.map (fun i => renB (inR s0) (rowAt own i)) ++ own.zipIdx.map fun x => match posN s0 x.2 0 with
  | some _ => .dead
  | none => renB (inR s0) x.1
def finB (s0 in1 : List Nat) (own own4 : List Blk) : List Blk := own.zipIdx.map (fun x => match posN s0 x.2 0 with
  | some j => renB (outB s0 own.length) (rowAt own4 j)
  | none => match inL in1 x.2 with
    | true => .dead
    | false => x.1) ++ (own4.drop s0.length).map (renB (outB s0 own.length))
def okIn (n0 : Nat) (s0 in1 : List Nat) (args : List AV) (own : List Blk) : Bool :=
  Nat.beq s0.length n0 && onceN s0 && (s0.all fun i => isCellsB (rowAt own i)) && (in1.all fun i => Nat.blt i own.length && (inL s0 i || isRow (rowAt own i))) && ((AV.idsL args).all fun i => Nat.blt i own.length)

def layD (n0 : Nat) (L L2 : List (Nat × Lay)) (rs : List Ty) (σ : List AV → List Blk → Option (List Nat)) (h : lden L → Option (dens rs × lden L2)) (args : List AV) (own : List Blk) : T (AV × List Blk) :=
  match σ args own with
  | none => .fail
  | some s0 => match okIn n0 s0 (insOf own s0) args own with
    | false => .fail
    | true => match absSt L args.length ⟨fun s => (AV.renL (inR s0) args).getD s .junk, ownIn s0 (aside (farU s0 (insOf own s0) own.length) own), args.length⟩ with
      | none => .fail
      | some x => .opt (h x) fun y => .ret (outR rs y.1, finB s0 (insOf own s0) own (encB L2 y.2))

def bodyT (P : Program) (F : Fns) (D : Nat → Bool) (S : Nat → Option (St → T (Ex × St))) (fn : Func) (L L2 : List (Nat × Lay)) (nt : Nat) (rs : List Ty) (x : lden L) : T (dens rs × lden L2) :=
  (runBody P F D S fn ((List.range nt).map (look (encS L x 0 (nB L)))) (encB L x)).bind fun z => match decR rs z.1 with
    | none => .fail
    | some y => match absSt L2 0 ⟨fun _ => .junk, z.2, 0⟩ with
      | none => .fail
      | some q => .ret (y, q)

def DentOK (P : Program) (g : Nat) (c : List AV → List Blk → T (AV × List Blk)) : Prop := ∀ args own v own', (c args own).run = some (v, own') → callable P g = true ∧ ∀ (w0 : Base P) (M : Nat → Prop) (r : Res) (w : World) (us : List Value), Rel w0 M (Sn own) own r w → LRel r args us →
    Calls P g us.toArray w fun e w' => ∃ u r', e = .returned u ∧ r.le r' ∧ Rel w0 M (Sn own') own' r' w' ∧ VRel r' v u

theorem lrel_of {r : Res} : ∀ {l : List AV} {us : List Value}, l.length = us.length → (∀ (s : Nat) (v : AV) (u : Value), l[s]? = some v → us[s]? = some u → VRel r v u) → LRel r l us
  | [], [], _, _ => by simp [LRel]
  | [], _ :: _, h, _ => by simp at h
  | _ :: _, [], h, _ => by simp at h
  | v :: l, u :: us, h, k => by
    simp only [LRel]
    exact ⟨u, us, rfl, k 0 v u rfl rfl, lrel_of (by simpa using h) fun s v u h1 h2 => k (s + 1) v u (by simpa using h1) (by simpa using h2)⟩

theorem noOwnL_encs : ∀ (l : List Ty) (x : dens l), noOwnL (encs l x) = true
  | [], _ => rfl
  | [t], x => by
    show (noOwn (t.av x) && true) = true
    rw [Bool.and_eq_true]; exact ⟨noOwn_av t x, rfl⟩
  | t :: u :: l, x => by
    show (noOwn (t.av x.1) && noOwnL (encs (u :: l) x.2)) = true
    rw [Bool.and_eq_true]; exact ⟨noOwn_av t x.1, noOwnL_encs (u :: l) x.2⟩
theorem noOwn_outR (l : List Ty) (x : dens l) : noOwn (outR l x) = true := by
  have h := noOwnL_encs l x
  show noOwn (tupOf (encs l x)) = true
  unfold tupOf
  split
  · rename_i v e
    rw [e] at h
    simpa [noOwnL] using h
  · exact h

theorem noOwn_mono {r r' : Res} (hH : ∀ a v, r.H a = some v → r'.H a = some v) {v : AV} {u : Value} (h : noOwn v = true) (k : VRel r v u) : VRel r' v u :=
  noOwn_rel (r := { H := r'.H, ι := r.ι }) (r' := r') rfl v u h (VRel.mono (r := r) (r' := { H := r'.H, ι := r.ι }) ⟨hH, fun _ _ e => e⟩ v u k)

theorem rowAt_someL {own : List Blk} {i : Nat} {k : Blk} (h : rowAt own i = k) (hl : isLive k = true) : own[i]? = some k := rowAt_live (fun _ _ => rfl) h hl

theorem zip_get {α : Type} (own : List Blk) (g : Blk × Nat → α) (i : Nat) : (own.zipIdx.map g)[i]? = (own[i]?).map fun k => g (k, i) := by
  rw [List.getElem?_map, List.getElem?_zipIdx, Option.map_map]
  congr 1
  funext k
  simp

theorem layD_ok {P : Program} {F : Fns} {D : Nat → Bool} {S : Nat → Option (St → T (Ex × St))} (hm : P.follows .mixedOrders = true) (hF : QuietOK P F.quiet) (hD : DeepOK P F.deep) {g : Nat} {fn : Func} (hfn : P.funcs[g]? = some fn) (hc : callable P g = true)
    {n0 nt : Nat} {L L2 : List (Nat × Lay)} {rs : List Ty} {σ : List AV → List Blk → Option (List Nat)} {h : lden L → Option (dens rs × lden L2)} (hok : layOK n0 L = true) (hok2 : layOK n0 L2 = true) (hal : hasAl L = false) (hal2 : hasAl L2 = false)
    (hS : ∀ n c, fn.body = some c → SOK P n S c) (hn : Nat.ble nt fn.ntmps = true) (hw : ∀ x, (List.range nt).all (fun s => !isWhen (look (encS L x 0 (nB L)) s)) = true) (hσ : ∀ args own s0, σ args own = some s0 → args.length = nt)
    (hh : ∀ x y, h x = some y → (bodyT P F D S fn L L2 nt rs x).run = some y) : DentOK P g (layD n0 L L2 rs σ h) := by
  intro args own v own' hrun
  refine ⟨hc, fun w0 M r w us hR hl => ?_⟩
  unfold layD at hrun
  split at hrun
  · exact (run_fail hrun).elim
  rename_i s0 hs0
  have hnt := hσ _ _ _ hs0
  split at hrun
  · exact (run_fail hrun).elim
  rename_i hokIn
  split at hrun
  · exact (run_fail hrun).elim
  rename_i x hx
  obtain ⟨y, hy, hrun⟩ := run_opt hrun
  cases run_ret hrun
  have hhy := hh x y hy
  clear hh hy hrun hσ
  rw [hnt] at hx
  -- what was looked at
  unfold okIn at hokIn
  simp only [Bool.and_eq_true] at hokIn
  obtain ⟨⟨⟨⟨c1, c2⟩, c3⟩, c4⟩, c5⟩ := hokIn
  have c1 := Nat.eq_of_beq_eq_true c1
  generalize hin : insOf own s0 = in1 at *
  generalize hUd : farU s0 in1 own.length = U at *
  have hcell : ∀ i, i ∈ s0 → ∃ cs, own[i]? = some (.cells cs) ∧ ∀ j, j ∈ AV.idsL cs → j ∈ in1 := fun i hi => by
    have := List.all_eq_true.1 c3 i hi
    unfold isCellsB at this
    split at this
    · rename_i cs hk
      refine ⟨cs, rowAt_someL hk rfl, fun j hj => ?_⟩
      rw [← hin]
      unfold insOf
      rw [List.mem_flatMap]
      exact ⟨i, hi, by rw [hk]; exact hj⟩
    · cases this
  have hs0n : ∀ i, i ∈ s0 → i < own.length := fun i hi => by
    obtain ⟨cs, e, _⟩ := hcell i hi
    exact (List.getElem?_eq_some_iff.1 e).1
  have hin1 : ∀ i, i ∈ in1 → i < own.length ∧ (i ∈ s0 ∨ isRow (rowAt own i) = true) := fun i hi => by
    have := List.all_eq_true.1 c4 i hi
    simp only [Bool.and_eq_true, Bool.or_eq_true] at this
    exact ⟨by simpa using this.1, this.2.imp inL_mem.1 id⟩
  have hargs : ∀ i, i ∈ AV.idsL args → i < own.length := fun i hi => by simpa using List.all_eq_true.1 c5 i hi
  have hU : ∀ i, i ∈ U ↔ i < own.length ∧ i ∉ s0 ∧ i ∉ in1 := fun i => by
    rw [← hUd]
    unfold farU
    rw [List.mem_filter, List.mem_range]
    simp only [Bool.not_or, Bool.and_eq_true, Bool.not_eq_true']
    constructor
    · rintro ⟨h1, h2, h3⟩
      exact ⟨h1, fun e => (by rw [inL_mem.2 e] at h2; cases h2), fun e => (by rw [inL_mem.2 e] at h3; cases h3)⟩
    · rintro ⟨h1, h2, h3⟩
      refine ⟨h1, ?_, ?_⟩
      · cases e : inL s0 i with
        | false => rfl
        | true => exact absurd (inL_mem.1 e) h2
      · cases e : inL in1 i with
        | false => rfl
        | true => exact absurd (inL_mem.1 e) h3
  have hs0U : ∀ i, i ∈ s0 → i ∉ U := fun i hi e => ((hU i).1 e).2.1 hi
  -- the others are put aside
  have hpart := hR.partR (ownK := own) (U := U) (fun i hi _ => ⟨hi, rfl⟩) (fun i cs hi hk j hj => by
    have hi' : i < own.length := (List.getElem?_eq_some_iff.1 hk).1
    have key : i ∈ s0 → j < own.length := fun hm => by
      obtain ⟨cs', e, h2⟩ := hcell i hm
      rw [hk] at e; cases e
      exact (hin1 j (h2 j hj)).1
    by_cases hm : i ∈ s0
    · exact key hm
    · by_cases hm2 : i ∈ in1
      · rcases (hin1 i hm2).2 with h3 | h3
        · exact key h3
        · have : rowAt own i = .cells cs := by unfold rowAt; rw [List.getD_eq_getElem?_getD, hk]; rfl
          rw [this] at h3; cases h3
      · exact absurd ((hU i).2 ⟨hi', hm, hm2⟩) hi)
  have hcutd : ∀ {j p}, (r.cut own.length).ι j = some p → j < own.length ∧ r.ι j = some p := fun {j p} e => by
    have e : (if j < own.length then r.ι j else none) = some p := e
    split at e
    · rename_i hj; exact ⟨hj, e⟩
    · cases e
  -- by other numbers
  let r1 : Res := { H := r.H, ι := fun i => if i < n0 then (r.cut own.length).ι (s0.getD i 0) else match posN s0 (i - n0) 0 with
    | some _ => none
    | none => (r.cut own.length).ι (i - n0) }
  have hf : ∀ j p, (r.cut own.length).ι j = some p → r1.ι (inR s0 j) = some p := fun j p e => by
    unfold inR
    cases hp : posN s0 j 0 with
    | some q =>
      obtain ⟨_, e1⟩ := posN_some hp
      have e1 : s0[q]? = some j := by simpa using e1
      have hq : q < n0 := by rw [← c1]; exact (List.getElem?_eq_some_iff.1 e1).1
      show (if q < n0 then _ else _) = _
      rw [if_pos hq, List.getD_eq_getElem?_getD, e1]; exact e
    | none =>
      show (if s0.length + j < n0 then _ else _) = _
      rw [if_neg (by omega), show s0.length + j - n0 = j by omega, hp]
      exact e
  have hgetI : ∀ i, i < n0 → (ownIn s0 (aside U own))[i]? = some (renB (inR s0) (rowAt (aside U own) (s0.getD i 0))) := fun i hi => by
    unfold ownIn
    rw [List.getElem?_append_left (by rw [List.length_map]; omega), List.getElem?_map, List.getD_eq_getElem?_getD]
    have : i < s0.length := by omega
    rw [List.getElem?_eq_getElem this]; rfl
  have hgetO : ∀ i, n0 ≤ i → (ownIn s0 (aside U own))[i]? = ((aside U own)[i - n0]?).map fun k => match posN s0 (i - n0) 0 with
      | some _ => .dead
      | none => renB (inR s0) k := fun i hi => by
    unfold ownIn
    rw [List.getElem?_append_right (by rw [List.length_map]; omega), List.length_map, c1, zip_get]
  have hlenI : (ownIn s0 (aside U own)).length = n0 + own.length := by
    unfold ownIn
    rw [List.length_append, List.length_map, List.length_map, List.length_zipIdx, aside_length, c1]
  have hR1 := hpart.renum (fun _ => False) (inR s0) (fun i => if i < n0 then s0.getD i 0 else i - n0) (own2 := ownIn s0 (aside U own)) (r2 := r1) rfl
    (fun i k hk hlv => by
      by_cases hi : i < n0
      · rw [hgetI i hi] at hk
        cases hk
        rw [renB_live] at hlv
        refine ⟨rowAt (aside U own) (s0.getD i 0), ?_, rfl, ?_, fun cs _ j _ p e => hf j p e⟩
        · show (aside U own)[if i < n0 then _ else _]? = _
          rw [if_pos hi]; exact rowAt_someL rfl hlv
        · show (if i < n0 then _ else _) = (r.cut own.length).ι (if i < n0 then _ else _)
          rw [if_pos hi, if_pos hi]
      · rw [hgetO i (by omega)] at hk
        cases ha : (aside U own)[i - n0]? with
        | none => rw [ha] at hk; cases hk
        | some k0 =>
          rw [ha] at hk
          cases hp : posN s0 (i - n0) 0 with
          | some q => rw [hp] at hk; cases hk; cases hlv
          | none =>
            rw [hp] at hk
            cases hk
            refine ⟨k0, ?_, rfl, ?_, fun cs _ j _ p e => hf j p e⟩
            · show (aside U own)[if i < n0 then _ else _]? = _
              rw [if_neg hi]; exact ha
            · show (if i < n0 then _ else _) = (r.cut own.length).ι (if i < n0 then _ else _)
              rw [if_neg hi, if_neg hi, hp])
    (fun i j k l hk hl' lk ll e => by
      have far : ∀ {i k}, ¬ i < n0 → (ownIn s0 (aside U own))[i]? = some k → isLive k = true → (i - n0) ∉ s0 := fun {i k} hi hk lk => by
        rw [hgetO i (by omega)] at hk
        cases ha : (aside U own)[i - n0]? with
        | none => rw [ha] at hk; cases hk
        | some k0 =>
          rw [ha] at hk
          cases hp : posN s0 (i - n0) 0 with
          | some q => rw [hp] at hk; cases hk; cases lk
          | none => exact posN_none hp
      have near : ∀ {i}, i < n0 → s0[i]? = some (s0.getD i 0) := fun {i} hi => by
        have : i < s0.length := by omega
        rw [List.getD_eq_getElem?_getD, List.getElem?_eq_getElem this]; rfl
      by_cases hi : i < n0
      · by_cases hj : j < n0
        · rw [if_pos hi, if_pos hj] at e
          have e1 := posN_at 0 c2 (near hi)
          have e2 := posN_at 0 c2 (near hj)
          rw [e] at e1
          rw [e1] at e2
          simpa using e2
        · rw [if_pos hi, if_neg hj] at e
          exact absurd (e ▸ List.mem_of_getElem? (near hi)) (far hj hl' ll)
      · by_cases hj : j < n0
        · rw [if_neg hi, if_pos hj] at e
          exact absurd (e ▸ List.mem_of_getElem? (near hj)) (far hi hk lk)
        · rw [if_neg hi, if_neg hj] at e
          omega)
    (fun i hi => by
      rw [hlenI] at hi
      show (if i < n0 then _ else _) = none
      rw [if_neg (by omega)]
      split
      · rfl
      · show (if i - n0 < own.length then _ else _) = none
        rw [if_neg (by omega)])
    (fun i hi => hi.elim)
  have hl1 : LRel r1 (AV.renL (inR s0) args) us := ren_relL (r := r.cut own.length) (r' := r1) (fun _ _ e => e) _ _ (fun j _ p e => hf j p e) (cut_relL _ _ hargs hl)
  have hul : us.length = nt := by rw [hl.length, hnt]
  let wB : Base P := { baseAt P (zeroR w0 own U r) w r with Z := fun _ => False }
  have hst : StRel wB (liveR (aside U own) r) ⟨fun s => (AV.renL (inR s0) args).getD s .junk, ownIn s0 (aside U own), nt⟩ r1 { tmps := us.toArray, defers := [] } w := by
    refine ⟨hR1, fun s => .of ?_, by simpa using hul, rfl⟩
    show VRel r1 ((AV.renL (inR s0) args).getD s .junk) _
    rcases Nat.lt_or_ge s (AV.renL (inR s0) args).length with h3 | h3
    · have e1 := List.getElem?_eq_getElem h3
      obtain ⟨u, e2, e3⟩ := hl1.get e1
      have e4 : us.toArray.getD s Go.undef = u := by
        rw [Array.getD_eq_getD_getElem?]
        simp [e2]
      rw [e4, List.getD_eq_getElem?_getD, e1]; exact e3
    · rw [List.getD_eq_getElem?_getD, List.getElem?_eq_none h3]; simp [VRel]
  obtain ⟨r2, hle2, hst2⟩ := absSt_sound (w0 := wB) hok hx (alD_none _ _ _ hal) (fun i (hi : False) => hi.elim) hst
  have hl2 : LRel r2 ((List.range nt).map (look (encS L x 0 (nB L)))) us := by
    refine lrel_of (by simpa using hul.symm) fun s v u h1 h2 => ?_
    rw [List.getElem?_map] at h1
    have hs : s < nt := by rw [← hul]; exact (List.getElem?_eq_some_iff.1 h2).1
    rw [List.getElem?_range hs] at h1
    cases h1
    have hwn : isWhen (look (encS L x 0 (nB L)) s) = false := by
      have := List.all_eq_true.1 (hw x) s (List.mem_range.2 hs)
      simpa using this
    have := (hst2.fr s).plain hwn
    have e4 : us.toArray.getD s Go.undef = u := by
      rw [Array.getD_eq_getD_getElem?]
      simp [h2]
    have e5 : ({ tmps := us.toArray, defers := [] } : Act).tmps.getD s Go.undef = u := e4
    rw [e5] at this
    exact this
  -- the body
  obtain ⟨⟨v0, own3⟩, hb1, hb2⟩ := run_bind hhy
  dsimp only at hb2
  split at hb2
  · exact (run_fail hb2).elim
  rename_i y1 hdec
  split at hb2
  · exact (run_fail hb2).elim
  rename_i q hq
  cases run_ret hb2
  refine (body_sound hm hF hD hfn (fun c hb => hS _ c hb) hb1 hst2.rel hl2 (by rw [List.length_map, List.length_range]; exact Nat.le_of_ble_eq_true hn)).mono ?_
  rintro e w' ⟨u, r3, rfl, k1, k2, k3⟩
  have hst3 : StRel wB (liveR (aside U own) r) ⟨fun _ => .junk, own3, 0⟩ r3 { tmps := #[], defers := [] } w' := ⟨k2, fun s => .of (by simp [VRel]), rfl, rfl⟩
  obtain ⟨r4, hle4, hst4⟩ := absSt_sound (w0 := wB) hok2 hq (alD_none _ _ _ hal2) (fun i (hi : False) => hi.elim) hst3
  have hR4 := hst4.rel
  have hu : VRel r3 (outR rs y1) u := decR_rel hdec k3
  have hle14 : r1.leN n0 r4 := (hle2.trans k1.leN).trans hle4
  dsimp only
  generalize hown4 : encB L2 q = own4
  have hR4 : Rel wB (liveR (aside U own) r) (Sn own4) own4 r4 w' := by rw [← hown4]; exact hR4
  -- back to the old numbers
  let r5 : Res := { H := r4.H, ι := fun i => match posN s0 i 0 with
    | some j => r4.ι j
    | none => if i < own.length then r.ι i else r4.ι (n0 + (i - own.length)) }
  let own5 : List Blk := own.zipIdx.map (fun x => match posN s0 x.2 0 with
    | some j => renB (outB s0 own.length) (rowAt own4 j)
    | none => .dead) ++ (own4.drop s0.length).map (renB (outB s0 own.length))
  have hpN : ∀ i, own.length ≤ i → posN s0 i 0 = none := fun i hi => by
    cases hp : posN s0 i 0 with
    | none => rfl
    | some q =>
      obtain ⟨_, e1⟩ := posN_some hp
      have := hs0n i (List.mem_of_getElem? e1)
      omega
  have hpS : ∀ {i q}, posN s0 i 0 = some q → q < n0 ∧ s0[q]? = some i := fun {i q} hp => by
    obtain ⟨_, e1⟩ := posN_some hp
    have e1 : s0[q]? = some i := by simpa using e1
    exact ⟨by rw [← c1]; exact (List.getElem?_eq_some_iff.1 e1).1, e1⟩
  have hfo : ∀ j p, r4.ι j = some p → r5.ι (outB s0 own.length j) = some p := fun j p e => by
    unfold outB
    cases hs : s0[j]? with
    | some i =>
      show (match posN s0 i 0 with | some j => r4.ι j | none => _) = _
      rw [posN_at 0 c2 hs, Nat.zero_add]; exact e
    | none =>
      have hj : s0.length ≤ j := List.getElem?_eq_none_iff.1 hs
      show (match posN s0 (own.length + (j - s0.length)) 0 with | some j => r4.ι j | none => _) = _
      rw [hpN _ (by omega)]
      show (if own.length + (j - s0.length) < own.length then _ else _) = _
      rw [if_neg (by omega), show n0 + (own.length + (j - s0.length) - own.length) = j by omega]; exact e
  have hlen5 : own5.length = own.length + (own4.length - n0) := by
    show List.length (_ ++ _) = _
    rw [List.length_append, List.length_map, List.length_zipIdx, List.length_map, List.length_drop, c1]
  have hget5 : ∀ i, i < own.length → own5[i]? = (own[i]?).map fun _ => match posN s0 i 0 with
      | some j => renB (outB s0 own.length) (rowAt own4 j)
      | none => .dead := fun i hi => by
    show (_ ++ _)[i]? = _
    rw [List.getElem?_append_left (by rw [List.length_map, List.length_zipIdx]; exact hi), zip_get]
  have hget5b : ∀ i, own.length ≤ i → own5[i]? = (own4[n0 + (i - own.length)]?).map (renB (outB s0 own.length)) := fun i hi => by
    show (_ ++ _)[i]? = _
    rw [List.getElem?_append_right (by rw [List.length_map, List.length_zipIdx]; exact hi), List.length_map, List.length_zipIdx, List.getElem?_map, List.getElem?_drop, c1]
  have hR5 := hR4.renum (zeroR w0 own U r) (outB s0 own.length) (fun i => match posN s0 i 0 with
    | some j => j
    | none => n0 + (i - own.length)) (own2 := own5) (r2 := r5) rfl
    (fun i k hk hlv => by
      by_cases hi : i < own.length
      · rw [hget5 i hi, List.getElem?_eq_getElem hi] at hk
        cases hp : posN s0 i 0 with
        | none => rw [hp] at hk; cases hk; cases hlv
        | some j =>
          rw [hp] at hk
          cases hk
          rw [renB_live] at hlv
          refine ⟨_, rowAt_someL (rfl : rowAt own4 j = _) hlv, rfl, ?_, fun cs _ j _ p e => hfo j p e⟩
          show (match posN s0 i 0 with | some j => r4.ι j | none => _) = _
          rw [hp]
      · rw [hget5b i (by omega)] at hk
        cases ha : own4[n0 + (i - own.length)]? with
        | none => rw [ha] at hk; cases hk
        | some k0 =>
          rw [ha] at hk
          cases hk
          have hp := hpN i (by omega)
          refine ⟨k0, by rw [hp]; exact ha, rfl, ?_, fun cs _ j _ p e => hfo j p e⟩
          show (match posN s0 i 0 with | some j => r4.ι j | none => if i < own.length then _ else _) = _
          rw [hp]
          show (if i < own.length then _ else _) = _
          rw [if_neg hi])
    (fun i j k l hk hl' lk ll e => by
      have near : ∀ {i k}, i < own.length → own5[i]? = some k → isLive k = true → ∃ q, posN s0 i 0 = some q := fun {i k} hi hk lk => by
        rw [hget5 i hi, List.getElem?_eq_getElem hi] at hk
        cases hp : posN s0 i 0 with
        | none => rw [hp] at hk; cases hk; cases lk
        | some q => exact ⟨q, rfl⟩
      by_cases hi : i < own.length
      · obtain ⟨a, ea⟩ := near hi hk lk
        obtain ⟨a1, a2⟩ := hpS ea
        by_cases hj : j < own.length
        · obtain ⟨b, eb⟩ := near hj hl' ll
          obtain ⟨b1, b2⟩ := hpS eb
          rw [ea, eb] at e
          have e : a = b := e
          subst e
          rw [a2] at b2
          exact Option.some.inj b2
        · rw [ea, hpN j (by omega)] at e
          have e : a = n0 + (j - own.length) := e
          omega
      · rw [hpN i (by omega)] at e
        by_cases hj : j < own.length
        · obtain ⟨b, eb⟩ := near hj hl' ll
          obtain ⟨b1, b2⟩ := hpS eb
          rw [eb] at e
          have e : n0 + (i - own.length) = b := e
          omega
        · rw [hpN j (by omega)] at e
          have e : n0 + (i - own.length) = n0 + (j - own.length) := e
          omega)
    (fun i hi => by
      rw [hlen5] at hi
      have hp := hpN i (by omega)
      show (match posN s0 i 0 with | some j => r4.ι j | none => if i < own.length then _ else _) = none
      rw [hp]
      show (if i < own.length then _ else _) = none
      rw [if_neg (by omega)]
      exact hR4.dom _ fun hs => by
        have hs : n0 + (i - own.length) < own4.length := hs
        omega)
    (fun i hi => by
      obtain ⟨z1, z2, _⟩ := hi
      refine ⟨by rw [hlen5]; omega, ?_⟩
      show (match posN s0 i 0 with | some j => r4.ι j | none => if i < own.length then _ else _) = none
      cases hp : posN s0 i 0 with
      | some j =>
        exfalso
        obtain ⟨_, e1⟩ := hpS hp
        obtain ⟨cs, e2, _⟩ := hcell i (List.mem_of_getElem? e1)
        rcases hR.blk i _ z1 e2 rfl with ⟨b, C, q1, _⟩ | ⟨_, t, q1⟩
        · rw [z2] at q1; cases q1
        · cases q1
      | none =>
        show (if i < own.length then _ else _) = none
        rw [if_pos z1]; exact z2)
  have hfl : (finB s0 in1 own own4).length = own5.length := by
    unfold finB
    rw [List.length_append, List.length_map, List.length_zipIdx, List.length_map, List.length_drop, hlen5, c1]
  have hgetF : ∀ i, i < own.length → (finB s0 in1 own own4)[i]? = (own[i]?).map fun k => match posN s0 i 0 with
      | some j => renB (outB s0 own.length) (rowAt own4 j)
      | none => match inL in1 i with
        | true => .dead
        | false => k := fun i hi => by
    unfold finB
    rw [List.getElem?_append_left (by rw [List.length_map, List.length_zipIdx]; exact hi), zip_get]
  have hback := hR.backR (ownK := own) (U := U) (own' := own5) (own2 := finB s0 in1 own own4) (r1 := r5) (fun i hi _ => ⟨hi, rfl⟩) (fun i hi => ((hU i).1 hi).1) (by rw [hlen5]; omega)
    (fun i h1 h2 hs => by have hs : i < own.length := hs; omega)
    ⟨fun a v e => hle14.H a v e, fun i p e => by
      obtain ⟨hi, e'⟩ := hcutd e
      show (match posN s0 i 0 with | some j => r4.ι j | none => if i < own.length then _ else _) = some p
      cases hp : posN s0 i 0 with
      | some j =>
        obtain ⟨j1, j2⟩ := hpS hp
        refine hle14.ι j p j1 ?_
        show (if j < n0 then _ else _) = _
        rw [if_pos j1, List.getD_eq_getElem?_getD, j2]; exact e
      | none =>
        show (if i < own.length then _ else _) = some p
        rw [if_pos hi]; exact e'⟩
    hR5
    (fun i hi => by
      rcases hi with hi | hi
      · obtain ⟨u1, u2, u3⟩ := (hU i).1 hi
        have hp : posN s0 i 0 = none := by
          cases hp : posN s0 i 0 with
          | none => rfl
          | some q => exact absurd (List.mem_of_getElem? (hpS hp).2) u2
        have hq : inL in1 i = false := by
          cases e : inL in1 i with
          | false => rfl
          | true => exact absurd (inL_mem.1 e) u3
        rw [hgetF i u1, hp, hq, List.getElem?_eq_getElem u1]; rfl
      · rw [List.getElem?_eq_none (by rw [hfl]; exact hi), List.getElem?_eq_none (by rw [hlen5] at hi; omega)])
    (fun i h1 h2 => by
      by_cases hi : i < own.length
      · rw [hgetF i hi, hget5 i hi, List.getElem?_eq_getElem hi]
        cases hp : posN s0 i 0 with
        | some q => rfl
        | none =>
          have hq : inL in1 i = true := by
            cases e : inL in1 i with
            | true => rfl
            | false =>
              refine absurd ((hU i).2 ⟨hi, posN_none hp, fun hm => ?_⟩) h1
              rw [inL_mem.2 hm] at e; cases e
          show some _ = some _
          rw [hq]
      · rw [hget5b i (by omega)]
        unfold finB
        rw [List.getElem?_append_right (by rw [List.length_map, List.length_zipIdx]; omega), List.length_map, List.length_zipIdx, List.getElem?_map, List.getElem?_drop, c1])
  obtain ⟨q1, q2, q3⟩ := hback
  refine ⟨u, _, rfl, q1, q3.congr fun i => ?_, noOwn_mono (r := r3) (r' := { H := r5.H, ι := fun i => if i < own5.length then r5.ι i else r.ι i }) (fun a v e => hle4.H a v e) (noOwn_outR rs y1) hu⟩
  unfold Sn
  rw [hfl]
  constructor
  · rintro (h | h)
    · have h : i < own.length := h
      rw [hlen5]; omega
    · exact h.2
  · intro h
    by_cases hi : i < own.length
    · exact .inl hi
    · exact .inr ⟨by omega, h⟩

def isRefA : AV → Bool
  | .ref _ _ => true
  | _ => false
def reachN (own : List Blk) : Nat → List Nat → List Nat
  | 0, l => l
  | n + 1, l => l ++ reachN own n (insOf own l)
def frzU (keep : AV → Bool) (args : List AV) (own : List Blk) : List Nat := reachN own 4 (AV.idsL (args.filter fun v => !keep v))
def frzD (keep : AV → Bool) (c : List AV → List Blk → T (AV × List Blk)) (args : List AV) (own : List Blk) : T (AV × List Blk) :=
  c (args.map fun v => match keep v with
    | true => v
    | false => AV.frz (aside (hideQ (frzU keep args own) own.length) own) 6 v) (aside (frzU keep args own) own)

theorem frzD_ok {P : Program} {g : Nat} {keep : AV → Bool} {c : List AV → List Blk → T (AV × List Blk)} (hc : DentOK P g c) : DentOK P g (frzD keep c) := by
  intro args own v own' h
  obtain ⟨h1, h2⟩ := hc _ _ _ _ h
  refine ⟨h1, fun w0 M r w us hR hl => ?_⟩
  obtain ⟨r2, k1, k2, k3⟩ := hR.freeze (frzU keep args own)
  have hS : ∀ i, Sn own i ↔ Sn (aside (frzU keep args own) own) i := fun i => by unfold Sn; rw [aside_length]
  have hl2 : LRel r2 (args.map fun v => match keep v with
      | true => v
      | false => AV.frz (aside (hideQ (frzU keep args own) own.length) own) 6 v) us := by
    refine lrel_of (by rw [List.length_map, hl.length]) fun s v u e1 e2 => ?_
    rw [List.getElem?_map] at e1
    cases ha : args[s]? with
    | none => rw [ha] at e1; cases e1
    | some v0 =>
      rw [ha] at e1
      cases e1
      obtain ⟨u', e3, e4⟩ := hl.get ha
      rw [e2] at e3; cases e3
      dsimp only
      cases keep v0 with
      | true => exact e4.mono k1
      | false => exact k3 _ _ e4
  refine (h2 w0 M r2 w us (k2.congr hS) hl2).mono ?_
  rintro e w' ⟨u, r', e1, q1, q2, q3⟩
  exact ⟨u, r', e1, k1.trans q1, q2, q3⟩

end Go.Proofs.Pen

namespace Go.Proofs.Pen
open Go RowKit

def insB (lt : Int → Int → Bool) (x : Int) : List Int → List Int
  | [] => [x]
  | y :: l => match lt x y with
    | true => x :: y :: l
    | false => y :: insB lt x l
def insS (lt : Int → Int → Bool) : List Int → List Int
  | [] => []
  | x :: l => insB lt x (insS lt l)

structure OrdL (lt : Int → Int → Bool) (L : List Int) : Prop where
  irr : ∀ a ∈ L, lt a a = false
  tr : ∀ a ∈ L, ∀ b ∈ L, ∀ c ∈ L, lt a b = true → lt b c = true → lt a c = true
  tot : ∀ a ∈ L, ∀ b ∈ L, lt a b = false → lt b a = false → a = b

theorem insB_perm (lt : Int → Int → Bool) (x : Int) : ∀ l : List Int, (insB lt x l).Perm (x :: l)
  | [] => .refl _
  | y :: l => by
    unfold insB
    cases lt x y with
    | true => exact .refl _
    | false => exact ((insB_perm lt x l).cons y).trans (.swap x y l)
theorem insS_perm (lt : Int → Int → Bool) : ∀ l : List Int, (insS lt l).Perm l
  | [] => .refl _
  | x :: l => (insB_perm lt x _).trans ((insS_perm lt l).cons x)

theorem insB_sorted {lt : Int → Int → Bool} {L : List Int} (h : OrdL lt L) {x : Int} (hx : x ∈ L) : ∀ l : List Int, (∀ a ∈ l, a ∈ L) → l.Pairwise (fun a b => lt b a = false) → (insB lt x l).Pairwise (fun a b => lt b a = false)
  | [], _, _ => by simp [insB]
  | y :: l, hl, hs => by
    have hy := hl y (by simp)
    have hs' := List.pairwise_cons.1 hs
    unfold insB
    cases hxy : lt x y with
    | true =>
      refine List.pairwise_cons.2 ⟨fun z hz => ?_, hs⟩
      have hzL := hl z hz
      cases hzx : lt z x with
      | false => rfl
      | true =>
        have hzy := h.tr z hzL x hx y hy hzx hxy
        rcases List.mem_cons.1 hz with rfl | hz
        · rw [h.irr z hzL] at hzy; cases hzy
        · rw [hs'.1 z hz] at hzy; cases hzy
    | false =>
      refine List.pairwise_cons.2 ⟨fun z hz => ?_, insB_sorted h hx l (fun a ha => hl a (by simp [ha])) hs'.2⟩
      rcases List.mem_cons.1 ((insB_perm lt x l).mem_iff.1 hz) with rfl | hz
      · exact hxy
      · exact hs'.1 z hz
theorem insS_sorted {lt : Int → Int → Bool} {L : List Int} (h : OrdL lt L) : ∀ l : List Int, (∀ a ∈ l, a ∈ L) → (insS lt l).Pairwise (fun a b => lt b a = false)
  | [], _ => by simp [insS]
  | x :: l, hl => insB_sorted h (hl x (by simp)) _ (fun a ha => hl a (by simp [(insS_perm lt l).mem_iff.1 ha])) (insS_sorted h l fun a ha => hl a (by simp [ha]))

theorem sorted_eq {lt : Int → Int → Bool} {L : List Int} (h : OrdL lt L) {l l' : List Int} (hl : ∀ a ∈ l, a ∈ L) (hp : l'.Perm l) (hs : l'.Pairwise (fun a b => lt b a = false)) : l' = insS lt l :=
  List.Perm.eq_of_pairwise (le := fun a b => lt b a = false) (fun a b ha hb h1 h2 => h.tot a (hl a (hp.mem_iff.1 ha)) b (hl b ((insS_perm lt l).mem_iff.1 hb)) h2 h1) hs (insS_sorted h l hl) (hp.trans (insS_perm lt l).symm)

def ltF (f : Int → Int → Option Int) (a b : Int) : Bool := match f a b with
  | some n => decide (n < 0)
  | none => false
def ordOK (f : Int → Int → Option Int) (l : List Int) : Bool :=
  (l.all fun a => !ltF f a a) && (l.all fun a => l.all fun b => (f a b).isSome && (ltF f a b || ltF f b a || a == b) && l.all fun c => !(ltF f a b && ltF f b c) || ltF f a c)
def sortO (f : Int → Int → Option Int) : List Int → Option (List Int)
  | [] => none
  | x :: l => match ordOK f (x :: l) && Nat.ble l.length 1000000 with
    | true => some (insS (ltF f) (x :: l))
    | false => none

theorem ordOK_spec {f : Int → Int → Option Int} {l : List Int} (h : ordOK f l = true) : OrdL (ltF f) l ∧ ∀ a ∈ l, ∀ b ∈ l, (f a b).isSome = true := by
  unfold ordOK at h
  rw [Bool.and_eq_true] at h
  obtain ⟨h1, h2⟩ := h
  have h1 := List.all_eq_true.1 h1
  have h2 := List.all_eq_true.1 h2
  have key : ∀ a ∈ l, ∀ b ∈ l, ((f a b).isSome = true ∧ (ltF f a b || ltF f b a || a == b) = true) ∧ (l.all fun c => !(ltF f a b && ltF f b c) || ltF f a c) = true := fun a ha b hb => by
    have := List.all_eq_true.1 (h2 a ha) b hb
    simpa only [Bool.and_eq_true] using this
  refine ⟨⟨fun a ha => by simpa using h1 a ha, fun a ha b hb c hc e1 e2 => ?_, fun a ha b hb e1 e2 => ?_⟩, fun a ha b hb => (key a ha b hb).1.1⟩
  · have := List.all_eq_true.1 (key a ha b hb).2 c hc
    simpa [e1, e2] using this
  · have := (key a ha b hb).1.2
    simpa [e1, e2] using this

section
variable {P : Program} {w0 : Base P} {w : World} {M : Nat → Prop} {own : List Blk} {r : Res}

theorem row_put {α : Type} [Inhabited α] (val : α → Int) (h : Rel w0 M (Sn own) own r w) {id b : Nat} {C : Nat × Nat} {xs : List Int} (hk : own[id]? = some (.row (.int .i64) xs)) (hι : r.ι id = some (b, C)) (dk : Array α) (n : Nat) (os : Array Obj) (hlen : dk.size ≤ xs.length) :
    Rel w0 M (Sn (own.set id (.row (.int .i64) (dk.toList.map val ++ xs.drop dk.size : List Int)))) (own.set id (.row (.int .i64) (dk.toList.map val ++ xs.drop dk.size : List Int))) r (Sort.grow (Sort.putRow (fun x => Value.int .i64 (val x)) (Sort.ahead w n) b 0 dk) os) := by
  rcases h.blk id _ (List.getElem?_eq_some_iff.1 hk).1 hk rfl with ⟨b', C', e1, hb, _, _⟩ | ⟨e1, _⟩
  · rw [hι] at e1; cases e1
    obtain ⟨vs, e, fz, h1, h2, h3, h4, h5, h6⟩ := hb
    have hbw : b < w.heap.size := (Array.getElem?_eq_some_iff.1 h1).1
    have h2 : xs.length = C.2 := h2
    have h4 : C.1 ≤ vs.length := by have : C.1 * 1 ≤ vs.length := h4; omega
    let c2 : Array Value := Sort.putCells (fun x => Value.int .i64 (val x)) 0 dk vs.toArray
    have hc2 : ∀ k, c2[k]? = (vs[k]?).map fun x => if k < dk.size then Value.int .i64 (val dk[k]!) else x := fun k => by
      show (Sort.putCells _ _ _ _)[k]? = _
      unfold Sort.putCells
      rw [Array.getElem?_mapIdx, List.getElem?_toArray]
      congr 1
      funext x
      simp
    have hc2l : c2.toList.length = vs.length := by
      show (Sort.putCells _ _ _ _).toList.length = _
      unfold Sort.putCells
      simp
    have hA := h.write (k' := .row (.int .i64) (dk.toList.map val ++ xs.drop dk.size : List Int)) (o := .cells c2 e fz) hk rfl hι (by
      refine ⟨c2.toList, e, fz, ?_, ?_, h3, by rw [hc2l]; show C.1 * 1 ≤ _; omega, by rw [hc2l]; exact h5, fun i x hi => ?_⟩
      · rw [setBlk_at h1]
      · show (dk.toList.map val ++ xs.drop dk.size).length = C.2
        rw [List.length_append, List.length_map, List.length_drop, Array.length_toList]; omega
      · have hi : (dk.toList.map val ++ xs.drop dk.size)[i]? = some x := hi
        refine ⟨[Value.int .i64 x], rfl, rfl, fun j u hj => ?_⟩
        have hj0 : j = 0 ∧ u = Value.int .i64 x := by
          cases j with
          | zero => simp at hj; exact ⟨rfl, hj.symm⟩
          | succ j => simp at hj
        obtain ⟨rfl, rfl⟩ := hj0
        show c2.toList[i * 1 + 0]? = _
        rw [show i * 1 + 0 = i by omega, Array.getElem?_toList, hc2]
        by_cases hid : i < dk.size
        · have hx : val dk[i]! = x := by
            rw [List.getElem?_append_left (by simpa using hid), List.getElem?_map, Array.getElem?_toList, Array.getElem?_eq_getElem hid] at hi
            rw [getElem!_pos dk i hid]
            exact Option.some.inj hi
          have hv : i < vs.length := by omega
          rw [List.getElem?_eq_getElem hv, Option.map_some, if_pos hid, hx]
        · rw [List.getElem?_append_right (by simpa using hid), List.length_map, Array.length_toList, List.getElem?_drop, show dk.size + (i - dk.size) = i by omega] at hi
          obtain ⟨us, k1, k2, k3⟩ := h6 i x hi
          have k2 : us = [Value.int .i64 x] := k2
          subst k2
          have := k3 0 _ rfl
          have : vs[i * 1 + 0]? = _ := this
          rw [show i * 1 + 0 = i by omega] at this
          rw [this, Option.map_some, if_neg hid])
    have hheap : ∀ k, k < w.heap.size → (Sort.grow (Sort.putRow (fun x => Value.int .i64 (val x)) (Sort.ahead w n) b 0 dk) os).heap[k]? = (setBlk w b (.cells c2 e fz)).heap[k]? := fun k hk' => by
      have hs : (Sort.putRow (fun x => Value.int .i64 (val x)) (Sort.ahead w n) b 0 dk).heap.size = w.heap.size := by
        show (w.heap.modify _ _).size = _
        simp
      rw [Sort.heap_grow_old _ _ (by rw [hs]; exact hk')]
      show (w.heap.modify b (Sort.onCells _))[k]? = (w.heap.setIfInBounds b _)[k]?
      rw [Array.getElem?_modify, Array.getElem?_setIfInBounds]
      by_cases hkb : b = k
      · subst hkb
        rw [if_pos rfl, if_pos rfl, if_pos hbw, h1]
        rfl
      · rw [if_neg hkb, if_neg hkb]
    have hsz : (setBlk w b (.cells c2 e fz)).heap.size = w.heap.size := by show (w.heap.setIfInBounds _ _).size = _; simp
    have hbel : Below (setBlk w b (.cells c2 e fz)).heap.size (setBlk w b (.cells c2 e fz)) (Sort.grow (Sort.putRow (fun x => Value.int .i64 (val x)) (Sort.ahead w n) b 0 dk) os) :=
      ⟨rfl, rfl, ⟨rfl, Nat.le_add_right _ _⟩, by rw [hsz, Sort.size_grow]; show w.heap.size ≤ (w.heap.modify _ _).size + _; simp, fun k hk' => hheap k (by rw [← hsz]; exact hk')⟩
    exact hA.below hbel (H' := r.H) (fun _ _ e => e) (fun a v ha => by
      have := hA.pers a v ha
      rw [← this]
      unfold World.cell?
      have hlt : a.block < w.heap.size := by
        rw [← hsz]
        unfold World.cell? at this
        apply Classical.byContradiction; intro hn
        rw [Array.getElem?_eq_none (by omega)] at this; cases this
      rw [hheap _ hlt]) (fun _ _ e => .inl e)
  · rw [hι] at e1; cases e1

def intsOf {t : Ty} (h : t = .int .i64) (xs : List t.den) : List Int := castSl h xs
def sortE (P : Program) (g0 : Nat) (c : Ty) (f : c.den → Int → Int → Option Int) (args : List AV) (own : List Blk) : T (AV × List Blk) :=
  match args with
  | [.osl t id 0 len _, .clo g [] cs] => match Nat.beq g g0 && callable P g0, c.dec cs with
    | true, some (x, []) => match rowAt own id with
      | .row t' xs => if h : t' = .int .i64 then (if t = .int .i64 then .opt (sortO (f x) ((intsOf h xs).take len)) fun ys => .ret (.tup [], own.set id (.row (.int .i64) (ys ++ (intsOf h xs).drop len : List Int))) else .fail) else .fail
      | _ => .fail
    | _, _ => .fail
  | _ => .fail

def SortsFn (P : Program) (s : Nat) : Prop := ∀ (L : List Int) (_ : Inhabited { a : Int // a ∈ L }) (cf : { a : Int // a ∈ L } → { a : Int // a ∈ L } → Int), Go.Sort.SWO (ltOf cf) → ∀ (g : Nat) (cb : Array Value) (blk off cap : Nat) (d : Array { a : Int // a ∈ L }) (w : World),
  (∀ args w, (callFunc g args).run P w = .ok (.enter g args) w) → CmpLays1 P g cb (fun x => Value.int .i64 x.1) cf blk off d.size w → Go.Sort.Holds (fun x : { a : Int // a ∈ L } => Value.int .i64 x.1) w blk off d → blk < w.heap.size → d.size < 4611686018427387904 →
  (∀ x y, (ltOf cf) x y = false → (ltOf cf) y x = false → x = y) →
  Calls P s #[.slice (some ⟨blk, off, none⟩) d.size cap, .func (.func g) #[] cb] w fun e w' => e = .returned (.tuple #[]) ∧ ∃ n os, w' = sortWorld (fun x => Value.int .i64 x.1) w blk off n (d.toList.mergeSort fun x y => !(ltOf cf) y x).toArray os

theorem world_ext {a b : World} (h1 : a.heap = b.heap) (h2 : a.tape = b.tape) (h3 : a.drawn = b.drawn) (h4 : a.os = b.os) (h5 : a.output = b.output) : a = b := by
  cases a; cases b; simp_all

theorem grown_of {W W' : World} (h : Below W.heap.size W W') : ∃ q os', W' = Sort.grow (W.drewN q) os' := by
  refine ⟨W'.drawn - W.drawn, W'.heap.extract W.heap.size W'.heap.size, world_ext ?_ h.tape ?_ h.os h.output.out⟩
  · show W'.heap = W.heap ++ W'.heap.extract W.heap.size W'.heap.size
    apply Array.ext_getElem?
    intro k
    have hs := h.size
    by_cases hk : k < W.heap.size
    · rw [Array.getElem?_append_left hk]; exact h.block k hk
    · rw [Array.getElem?_append_right (by omega), Array.getElem?_extract]
      by_cases hk2 : k < W'.heap.size
      · rw [if_pos (by omega), show W.heap.size + (k - W.heap.size) = k by omega]
      · rw [if_neg (by omega), Array.getElem?_eq_none (by omega)]
  · have := h.output.drawn
    show W'.drawn = W.drawn + (W'.drawn - W.drawn)
    omega

theorem sortE_ok {s : Nat} (hc : callable P s = true) (hS : SortsFn P s) {g0 : Nat} {ct : Ty} {f : ct.den → Int → Int → Option Int} {q : List AV → T AV} (hq : FnOK P g0 q) (hf : ∀ x a b n, f x a b = some n → (q (.it .i64 a :: .it .i64 b :: ct.enc x)).run = some (.it .i64 n)) : DentOK P s (sortE P g0 ct f) := by
  intro args own v own' hrun
  refine ⟨hc, fun w0 M r w us hR hl => ?_⟩
  unfold sortE at hrun
  split at hrun
  rotate_left
  · exact (run_fail hrun).elim
  rename_i t id len cap g cs
  split at hrun
  rotate_left
  · exact (run_fail hrun).elim
  rename_i _ _ dx hok hdec
  rw [Bool.and_eq_true] at hok
  obtain ⟨hgg, hcg⟩ := hok
  have hgg := Nat.eq_of_beq_eq_true hgg
  subst hgg
  split at hrun
  rotate_left
  · exact (run_fail hrun).elim
  rename_i t' xs hrow
  split at hrun
  rotate_left
  · exact (run_fail hrun).elim
  rename_i ht'
  subst ht'
  split at hrun
  rotate_left
  · exact (run_fail hrun).elim
  rename_i ht
  subst ht
  obtain ⟨ys, hys, hrun⟩ := run_opt hrun
  cases run_ret hrun
  have hys : sortO (f dx) ((show List Int from xs).take len) = some ys := hys
  generalize hxs : (show List Int from xs) = xl at hys
  -- what is sorted
  cases hL : xl.take len with
  | nil => rw [hL] at hys; cases hys
  | cons x0 L0 =>
    rw [hL] at hys
    have hord : (ordOK (f dx) (x0 :: L0) && Nat.ble L0.length 1000000) = true ∧ ys = insS (ltF (f dx)) (x0 :: L0) := by
      have hys : (match ordOK (f dx) (x0 :: L0) && Nat.ble L0.length 1000000 with
        | true => some (insS (ltF (f dx)) (x0 :: L0))
        | false => none) = some ys := hys
      cases hb : ordOK (f dx) (x0 :: L0) && Nat.ble L0.length 1000000 with
      | true => rw [hb] at hys; exact ⟨rfl, (Option.some.inj hys).symm⟩
      | false => rw [hb] at hys; cases hys
    obtain ⟨hord, rfl⟩ := hord
    rw [Bool.and_eq_true] at hord
    obtain ⟨hord, hmax⟩ := hord
    have hmax := Nat.le_of_ble_eq_true hmax
    obtain ⟨hO, hsome⟩ := ordOK_spec hord
    -- the arguments
    simp only [LRel] at hl
    obtain ⟨v1, _, rfl, hv1, v2, _, rfl, hv2, rfl⟩ := hl
    simp only [VRel] at hv1 hv2
    obtain ⟨p, c, rfl, hlc, _, hp⟩ := hv1
    obtain ⟨us1, caps, rfl, hus1, hcaps⟩ := hv2
    simp only [LRel] at hus1
    subst hus1
    have hcap : TRel r.H ct dx caps := by
      obtain ⟨us0, ws0, hce, hcap, hws⟩ := dec_sound ct hcaps hdec
      simp only [LRel] at hws
      rw [hce, hws, List.append_nil]
      exact hcap
    have hlen0 : len ≠ 0 := fun e => by rw [e] at hL; simp at hL
    rcases hp with ⟨h0, _⟩ | ⟨b, C, hι, rfl, hb1, hb2⟩
    · exact absurd h0 hlen0
    have hk : own[id]? = some (.row (.int .i64) xl) := by
      rw [← hxs]
      exact rowAt_some hrow rfl
    rcases hR.blk id _ (List.getElem?_eq_some_iff.1 hk).1 hk rfl with ⟨b', C', e1, hb, _, hfar⟩ | ⟨e1, _⟩
    rotate_left
    · rw [hι] at e1; cases e1
    rw [hι] at e1; cases e1
    obtain ⟨vs, e, fz, h1, h2, h3, h4, h5, h6⟩ := hb
    have hbw : b < w.heap.size := (Array.getElem?_eq_some_iff.1 h1).1
    have h2 : xl.length = C.2 := h2
    have h4 : C.1 ≤ vs.length := by have : C.1 * 1 ≤ vs.length := h4; omega
    have hlx : len ≤ xl.length := by omega
    have hLlen : (x0 :: L0).length = len := by rw [← hL, List.length_take]; omega
    let L := x0 :: L0
    let d : Array { a : Int // a ∈ L } := L.attach.toArray
    have hd : d.size = len := by show L.attach.toArray.size = len; rw [List.size_toArray, List.length_attach]; exact hLlen
    let inh : Inhabited { a : Int // a ∈ L } := ⟨⟨x0, by simp [L]⟩⟩
    let cf : { a : Int // a ∈ L } → { a : Int // a ∈ L } → Int := fun x y => (f dx x.1 y.1).getD 0
    have hcf : ∀ x y, f dx x.1 y.1 = some (cf x y) := fun x y => by
      have := hsome x.1 x.2 y.1 y.2
      obtain ⟨n, hn⟩ := Option.isSome_iff_exists.1 this
      show _ = some ((f dx x.1 y.1).getD 0)
      rw [hn]; rfl
    have hlt : ∀ x y, ltOf cf x y = ltF (f dx) x.1 y.1 := fun x y => by
      unfold ltOf ltF
      rw [hcf x y]
    have hT : ∀ x y, ltOf cf x y = false → ltOf cf y x = false → x = y := fun x y e1 e2 => by
      rw [hlt] at e1 e2
      exact Subtype.ext (hO.tot x.1 x.2 y.1 y.2 e1 e2)
    have hSW : Go.Sort.SWO (ltOf cf) := by
      have htr : ∀ x y z, ltOf cf x y = true → ltOf cf y z = true → ltOf cf x z = true := fun x y z e1 e2 => by
        rw [hlt] at e1 e2 ⊢
        exact hO.tr x.1 x.2 y.1 y.2 z.1 z.2 e1 e2
      refine ⟨fun x => by rw [hlt]; exact hO.irr x.1 x.2, htr, fun x y z e1 e2 => ?_⟩
      cases hxz : ltOf cf x z with
      | false => rfl
      | true =>
        cases hyx : ltOf cf y x with
        | true => rw [htr y x z hyx hxz] at e2; cases e2
        | false =>
          have := hT x y e1 hyx
          subst this
          rw [hxz] at e2; cases e2
    have hget : ∀ j, (hj : j < len) → (d[j]!).1 = xl[j]'(by omega) := fun j hj => by
      rw [getElem!_pos d j (by omega)]
      show (L.attach.toArray[j]).1 = _
      have : (L.attach.toArray[j]'(by rw [List.size_toArray, List.length_attach]; show j < (x0 :: L0).length; omega)).1 = L[j]'(by rw [hLlen]; exact hj) := by simp
      rw [this]
      have : L[j]'(by rw [hLlen]; exact hj) = (xl.take len)[j]'(by rw [List.length_take]; omega) := by simp only [hL]; rfl
      rw [this, List.getElem_take]
    have hH : Go.Sort.Holds (fun x : { a : Int // a ∈ L } => Value.int .i64 x.1) w b 0 d := fun j hj => by
      have hj : j < len := by omega
      obtain ⟨us, k1, k2, k3⟩ := h6 j (xl[j]'(by omega)) (List.getElem?_eq_getElem (by omega))
      have k2 : us = [Value.int .i64 (xl[j]'(by omega))] := k2
      have k3 : vs[j * 1 + 0]? = some (Value.int .i64 (xl[j]'(by omega))) := k3 0 _ (by rw [k2]; rfl)
      rw [show j * 1 + 0 = j by omega] at k3
      rw [Nat.zero_add]
      dsimp only
      rw [hget j hj]
      refine ⟨?_, ?_⟩
      · rw [cell_at h1]; simpa using k3
      · unfold World.frozen?
        rw [h1]
        rcases h5 with h5 | h5
        · simp; omega
        · simp; omega
    have hcmp : CmpLays1 P g caps.toArray (fun x : { a : Int // a ∈ L } => Value.int .i64 x.1) cf b 0 d.size w := fun m os dk hdk x y => by
      have hrun := hf dx x.1 y.1 _ (hcf x y)
      have hW : ∀ a u, r.H a = some u → (sortWorld (fun x : { a : Int // a ∈ L } => Value.int .i64 x.1) w b 0 m dk os).cell? a = some u := fun a u ha => by
        have h0 := hR.pers a u ha
        have hne := hfar a u ha
        have hlt : a.block < w.heap.size := by
          unfold World.cell? at h0
          apply Classical.byContradiction; intro hn
          rw [Array.getElem?_eq_none (by omega)] at h0; cases h0
        rw [← h0]
        unfold World.cell?
        have : (sortWorld (fun x : { a : Int // a ∈ L } => Value.int .i64 x.1) w b 0 m dk os).heap[a.block]? = w.heap[a.block]? := by
          unfold sortWorld
          rw [Sort.heap_grow_old _ _ (by show a.block < (w.heap.modify _ _).size; simpa using hlt)]
          show (w.heap.modify b _)[a.block]? = _
          rw [Array.getElem?_modify, if_neg (fun e => hne e.symm)]
        rw [this]
      obtain ⟨_, hfn⟩ := hq _ _ hrun
      have hlr : LRel { H := r.H, ι := fun _ => none } (.it .i64 x.1 :: .it .i64 y.1 :: ct.enc dx) (Value.int .i64 x.1 :: Value.int .i64 y.1 :: caps) := by
        simp only [LRel]
        exact ⟨_, _, rfl, by simp [VRel], _, _, rfl, by simp [VRel], LRel.enc (r := { H := r.H, ι := fun _ => none }) hcap⟩
      have := hfn { H := r.H, ι := fun _ => none } (sortWorld (fun x : { a : Int // a ∈ L } => Value.int .i64 x.1) w b 0 m dk os) _ (fun _ => rfl) hW hR.glob hlr
      have ea : (#[Value.int .i64 x.1, Value.int .i64 y.1] ++ caps.toArray) = (Value.int .i64 x.1 :: Value.int .i64 y.1 :: caps).toArray := by simp
      rw [ea]
      refine this.mono ?_
      rintro e w' ⟨u, r', e1, _, hbel, _, _, _, hv⟩
      have hv : u = .int .i64 (cf x y) := by simpa only [VRel] using hv
      subst hv
      exact ⟨e1, grown_of hbel⟩
    have key := @hS L inh cf hSW g caps.toArray b 0 c d w (fun args w => run_callFunc hcg args) hcmp hH hbw (by rw [hd, ← hLlen, List.length_cons]; omega) hT
    have eslice : (#[Value.slice (some ⟨b, 0, none⟩) d.size c, Value.func (.func g) #[] caps.toArray] : Array Value) = [Value.slice (some ⟨b, 0 * (Ty.int IntKind.i64).sz, none⟩) len c, Value.func (.func g) ([] : List Value).toArray caps.toArray].toArray := by
      rw [hd, Nat.zero_mul]
    rw [eslice] at key
    refine key.mono ?_
    rintro e w' ⟨rfl, n, os, rfl⟩
    let dk := (d.toList.mergeSort fun x y => !(ltOf cf) y x).toArray
    have hdk : dk.size = len := by show (List.mergeSort _ _).toArray.size = _; simp [hd]
    have hval : dk.toList.map (fun x => x.1) = insS (ltF (f dx)) L := by
      refine sorted_eq hO (l := L) (fun a ha => ha) ?_ ?_
      · have h1 : dk.toList.Perm d.toList := by show (List.mergeSort _ _).Perm _; exact List.mergeSort_perm _ _
        have h2 := h1.map (fun x : { a : Int // a ∈ L } => x.1)
        have h3 : d.toList.map (fun x : { a : Int // a ∈ L } => x.1) = L := by show L.attach.map _ = L; simp
        rw [h3] at h2
        exact h2
      · rw [List.pairwise_map]
        have := List.pairwise_mergeSort (le := fun x y : { a : Int // a ∈ L } => !(ltOf cf) y x) (fun x y z e1 e2 => by
            simp only [Bool.not_eq_true'] at e1 e2 ⊢
            exact hSW.ntrans z y x e2 e1) (fun x y => by
            cases e1 : ltOf cf y x with
            | false => simp
            | true =>
              cases e2 : ltOf cf x y with
              | false => simp
              | true => have := hSW.trans y x y e1 e2; rw [hSW.irrefl] at this; cases this) d.toList
        refine this.imp fun {x y} h => ?_
        rw [← hlt]
        simpa using h
    have hput := row_put (fun x : { a : Int // a ∈ L } => x.1) hR hk hι dk n os (by omega)
    rw [hval, hdk] at hput
    refine ⟨_, r, rfl, .refl r, ?_, by simp only [VRel, LRel]; exact ⟨[], rfl, rfl⟩⟩
    exact hput

end
end Go.Proofs.Pen

namespace Go.Proofs.Pen
open Go RowKit

def sortI (args : List AV) (own : List Blk) : T (AV × List Blk) :=
  match args with
  | [.osl t id 0 len _] => match rowAt own id with
    | .row t' xs => if h : t' = .int .i64 then (if t = .int .i64 then .ite (decide (len ≤ 1000000)) (.ret (.tup [], own.set id (.row (.int .i64) (insS (fun a b => decide (a < b)) ((intsOf h xs).take len) ++ (intsOf h xs).drop len : List Int)))) .fail else .fail) else .fail
    | _ => .fail
  | _ => .fail

def isOslA : AV → Bool
  | .osl _ _ _ _ _ => true
  | _ => false

def SortsInt (P : Program) (s : Nat) : Prop :=
  (∀ (blk off cap : Nat) (zs : List Int) (w : World), Go.Sort.Holds (Value.int .i64) w blk off zs.toArray → blk < w.heap.size → zs.length < 4611686018427387904 →
    Calls P s #[.slice (some ⟨blk, off, none⟩) zs.length cap] w fun e w' => e = .returned (.tuple #[]) ∧ ∃ n os, w' = Go.Sort.grow (Go.Sort.putRow (Value.int .i64) (Go.Sort.ahead w n) blk off (zs.mergeSort fun x y => decide (x ≤ y)).toArray) os) ∧
  ∀ (p : Option Addr) (cap : Nat) (w : World), Calls P s #[.slice p 0 cap] w fun e w' => e = .returned (.tuple #[]) ∧ w' = w

theorem sortI_ok {P : Program} {s : Nat} (hc : callable P s = true) (hS : SortsInt P s) : DentOK P s sortI := by
  intro args own v own' hrun
  refine ⟨hc, fun w0 M r w us hR hl => ?_⟩
  unfold sortI at hrun
  split at hrun
  rotate_left
  · exact (run_fail hrun).elim
  rename_i t id len cap
  split at hrun
  rotate_left
  · exact (run_fail hrun).elim
  rename_i t' xs hrow
  split at hrun
  rotate_left
  · exact (run_fail hrun).elim
  rename_i ht'
  subst ht'
  split at hrun
  rotate_left
  · exact (run_fail hrun).elim
  rename_i ht
  subst ht
  rcases run_ite hrun with ⟨hmax, hrun⟩ | ⟨_, hrun⟩
  rotate_left
  · exact (run_fail hrun).elim
  cases run_ret hrun
  have hmax := of_decide_eq_true hmax
  generalize hxs : (show List Int from xs) = xl
  have hk : own[id]? = some (.row (.int .i64) xl) := by
    rw [← hxs]
    exact rowAt_some hrow rfl
  show Calls P s us.toArray w fun e w' => ∃ u r', e = .returned u ∧ r.le r' ∧ Rel w0 M (Sn (own.set id (.row (.int .i64) (insS (fun a b => decide (a < b)) (xl.take len) ++ xl.drop len : List Int)))) (own.set id (.row (.int .i64) (insS (fun a b => decide (a < b)) (xl.take len) ++ xl.drop len : List Int))) r' w' ∧ VRel r' (.tup []) u
  simp only [LRel] at hl
  obtain ⟨v1, _, rfl, hv1, rfl⟩ := hl
  simp only [VRel] at hv1
  obtain ⟨p, c, rfl, hlc, _, hp⟩ := hv1
  by_cases hlen0 : len = 0
  · subst hlen0
    refine (hS.2 p c w).mono ?_
    rintro e w' ⟨rfl, rfl⟩
    refine ⟨_, r, rfl, .refl r, ?_, by simp only [VRel, LRel]; exact ⟨[], rfl, rfl⟩⟩
    have : own.set id (.row (.int .i64) (insS (fun a b => decide (a < b)) (xl.take 0) ++ xl.drop 0 : List Int)) = own := by
      have hid := (List.getElem?_eq_some_iff.1 hk)
      rw [List.take_zero, List.drop_zero]
      show own.set id (.row (.int .i64) ([] ++ xl : List Int)) = own
      rw [List.nil_append]
      obtain ⟨h1, h2⟩ := hid
      rw [← h2, List.set_getElem_self]
    rw [this]
    exact hR
  rcases hp with ⟨h0, _⟩ | ⟨b, C, hι, rfl, hb1, hb2⟩
  · exact absurd h0 hlen0
  rcases hR.blk id _ (List.getElem?_eq_some_iff.1 hk).1 hk rfl with ⟨b', C', e1, hb, _, hfar⟩ | ⟨e1, _⟩
  rotate_left
  · rw [hι] at e1; cases e1
  rw [hι] at e1; cases e1
  obtain ⟨vs, e, fz, h1, h2, h3, h4, h5, h6⟩ := hb
  have hbw : b < w.heap.size := (Array.getElem?_eq_some_iff.1 h1).1
  have h2 : xl.length = C.2 := h2
  have h4 : C.1 ≤ vs.length := by have : C.1 * 1 ≤ vs.length := h4; omega
  have hlx : len ≤ xl.length := by omega
  have hLlen : (xl.take len).length = len := by rw [List.length_take]; omega
  have hH : Go.Sort.Holds (Value.int .i64) w b 0 (xl.take len).toArray := fun j hj => by
    have hj : j < len := by rw [List.size_toArray, hLlen] at hj; exact hj
    obtain ⟨us, k1, k2, k3⟩ := h6 j (xl[j]'(by omega)) (List.getElem?_eq_getElem (by omega))
    have k2 : us = [Value.int .i64 (xl[j]'(by omega))] := k2
    have k3 : vs[j * 1 + 0]? = some (Value.int .i64 (xl[j]'(by omega))) := k3 0 _ (by rw [k2]; rfl)
    rw [show j * 1 + 0 = j by omega] at k3
    have hg : ((xl.take len).toArray[j]!) = xl[j]'(by omega) := by
      rw [getElem!_pos _ j (by rw [List.size_toArray, hLlen]; exact hj)]
      simp
    rw [Nat.zero_add, hg]
    refine ⟨?_, ?_⟩
    · rw [cell_at h1]; simpa using k3
    · unfold World.frozen?
      rw [h1]
      rcases h5 with h5 | h5
      · simp; omega
      · simp; omega
  have key := hS.1 b 0 c (xl.take len) w hH hbw (by omega)
  have eslice : (#[Value.slice (some ⟨b, 0, none⟩) (xl.take len).length c] : Array Value) = [Value.slice (some ⟨b, 0 * (Ty.int IntKind.i64).sz, none⟩) len c].toArray := by
    rw [hLlen, Nat.zero_mul]
  rw [eslice] at key
  refine key.mono ?_
  rintro e w' ⟨rfl, n, os, rfl⟩
  let dk := ((xl.take len).mergeSort fun x y => decide (x ≤ y)).toArray
  have hdk : dk.size = len := by show (List.mergeSort _ _).toArray.size = _; rw [List.size_toArray, List.length_mergeSort, hLlen]
  have hO : OrdL (fun a b => decide (a < b)) (xl.take len) := ⟨fun a _ => by simp, fun a _ b _ c _ h1 h2 => by simp at *; omega, fun a _ b _ h1 h2 => by simp at *; omega⟩
  have hval : dk.toList.map (fun x => x) = insS (fun a b => decide (a < b)) (xl.take len) := by
    rw [List.map_id']
    refine sorted_eq hO (fun a ha => ha) (List.mergeSort_perm _ _) ?_
    have := List.pairwise_mergeSort (le := fun x y : Int => decide (x ≤ y)) (fun x y z e1 e2 => by simp at *; omega) (fun x y => by simp; omega) (xl.take len)
    refine this.imp fun {x y} h => ?_
    simp at h ⊢; omega
  have hput := row_put (fun x : Int => x) hR hk hι dk n os (by omega)
  rw [hval, hdk] at hput
  exact ⟨_, r, rfl, .refl r, hput, by simp only [VRel, LRel]; exact ⟨[], rfl, rfl⟩⟩

end Go.Proofs.Pen

namespace Go.Proofs.Pen
open Go RowKit

def npDec (t : Ty) (k : IntKind) (v : AV) : Option (Option t.den × Int) :=
  match v with
  | .tup [.nilp, .it k' n] => if k' = k then some (none, n) else none
  | .tup [.ptr cs, .it k' n] => if k' = k then (match t.dec cs with
    | some (x, []) => some (some x, n)
    | _ => none) else none
  | _ => none
def npOut (t : Ty) (k : IntKind) (y : Option t.den × Int) : AV :=
  match y.1 with
  | none => .tup [.nilp, .it k y.2]
  | some x => .tup [.ptr (t.enc x), .it k y.2]
theorem npDec_rel {t : Ty} {k : IntKind} (r : Res) (v : AV) (y : Option t.den × Int) (u : Value) (h : npDec t k v = some y) (hv : VRel r v u) : VRel r (npOut t k y) u := by
  unfold npDec at h
  split at h
  · split at h
    · rename_i hk; subst hk; cases h; exact hv
    · cases h
  · split at h
    · rename_i cs k' n hk
      subst hk
      split at h
      · rename_i x hx
        cases h
        simp only [VRel, LRel] at hv
        obtain ⟨vs, rfl, v1, _, rfl, ⟨p, us, rfl, k1, k2⟩, v2, _, rfl, rfl, rfl⟩ := hv
        obtain ⟨us', ws, rfl, q1, q2⟩ := dec_sound t k1 hx
        simp only [npOut, VRel, LRel]
        exact ⟨_, rfl, _, _, rfl, ⟨p, us', rfl, LRel.enc q1, k2.left⟩, _, _, rfl, rfl, rfl⟩
      · cases h
    · cases h
  · cases h

def entryNP (ps : List Ty) (t : Ty) (k : IntKind) (f : dens ps → Option (Option t.den × Int)) (args : List AV) : T AV :=
  match decs ps args with
  | some x => .opt (f x) fun y => .ite y.1.isNone (.ret (.tup [.nilp, .it k y.2])) (.opt y.1 fun d => .ret (.tup [.ptr (t.enc d), .it k y.2]))
  | none => .fail

theorem entry_np {P : Program} {F : Fns} {D : Nat → Bool} {S : Nat → Option (St → T (Ex × St))} {ps : List Ty} {tt : Ty} {kk : IntKind} {t : dens ps → T (Option tt.den × Int)} (hm : P.follows .mixedOrders = true) (hF : QuietOK P F.quiet) (hD : DeepOK P F.deep) {g : FuncId} {fn : Func} (hfn : P.funcs[g]? = some fn) (hc : callable P g = true)
    (hS : ∀ c, fn.body = some c → SOK P 0 S c) (hn : Nat.ble ps.length fn.ntmps = true)
    (h : ∀ x, runT P F D S fn (encs ps x) (npDec tt kk) = t x) : FnOK P g (entryNP ps tt kk fun x => (t x).run) := by
  have key : FnOK P g (entry ps (npOut tt kk) fun x => .opt (t x).run .ret) := entry_ok hm hF hD hfn hc hS (fun r v y u => npDec_rel r v y u) hn fun x y hy => by
    obtain ⟨z, h1, h2⟩ := run_opt hy
    cases run_ret h2
    rw [h x]; exact h1
  intro args v hv
  refine key args v ?_
  unfold entryNP at hv
  unfold entry
  split at hv
  · rename_i x hx
    obtain ⟨y, h1, h2⟩ := run_opt hv
    rw [hx]
    show (T.opt (t x).run fun r => (T.ret r).bind fun y => T.ret (npOut tt kk y)).run = some v
    show ((t x).run.bind fun r => some (npOut tt kk r)) = some v
    have h1 : (t x).run = some y := h1
    rw [h1]
    show some (npOut tt kk y) = some v
    obtain ⟨o, n⟩ := y
    cases o with
    | none => 
      rcases run_ite h2 with ⟨_, h3⟩ | ⟨h3, _⟩
      · cases run_ret h3; rfl
      · cases h3
    | some d =>
      rcases run_ite h2 with ⟨h3, _⟩ | ⟨_, h3⟩
      · cases h3
      · obtain ⟨d', e1, e2⟩ := run_opt h3
        cases e1
        cases run_ret e2; rfl
  · exact (run_fail hv).elim

def freshP (own : List Blk) (v : AV) : Bool :=
  match v with
  | .tup [.ref id 0, .it _ _] => (match rowAt own id with
    | .cells cs => freshL cs
    | _ => false)
  | v => freshAV v
theorem frzL_map (own : List Blk) (n : Nat) : ∀ cs : List AV, cs.map (AV.frz own (n + 1)) = AV.frzL own (fun id off => match rowAt own id with
    | .cells cs => .ptr ((cs.drop off).map (AV.frz own n))
    | _ => .junk) cs
  | [] => rfl
  | c :: cs => by
    rw [List.map_cons, frzL_map own n cs]; rfl
theorem fresh_np {P : Program} {w0 : Base P} {own : List Blk} {r rF : Res} {w : World} (hR : Rel w0 (fun _ => False) (Sn own) own r w) (hF : ∀ a x, w.cell? a = some x → w0.heap.size ≤ a.block → rF.H a = some x) (v : AV) (u : Value) (h : freshP own v = true) (k : VRel r v u) : VRel rF (AV.frz own 6 v) u := by
  unfold freshP at h
  split at h
  · rename_i id k' n
    split at h
    · rename_i cs hc
      simp only [VRel, LRel] at k
      obtain ⟨vs, rfl, v1, _, rfl, ⟨b, C, hi, rfl⟩, v2, _, rfl, rfl, rfl⟩ := k
      obtain ⟨us, k1, k2⟩ := hR.cells (ownF := own) (fun _ _ => rfl) hc hi
      have hid := rowAt_live (own := own) (ownF := own) (fun _ _ => rfl) hc rfl
      have hge : w0.heap.size ≤ b := by
        rcases hR.blk id _ (List.getElem?_eq_some_iff.1 hid).1 hid rfl with ⟨b', C', q1, q2, q3, q4⟩ | ⟨q1, _⟩
        · rw [hi] at q1; cases q1
          rcases q3 with q3 | q3
          · exact q3.elim
          · exact q3
        · rw [hi] at q1; cases q1
      have e : AV.frz own 6 (.tup [.ref id 0, .it k' n]) = .tup [.ptr (cs.map (AV.frz own 5)), .it k' n] := by
        show AV.tup [(match rowAt own id with
          | .cells cs => .ptr ((cs.drop 0).map (AV.frz own 5))
          | _ => .junk), .it k' n] = _
        rw [hc]; rfl
      rw [e, frzL_map own 4]
      simp only [VRel, LRel]
      exact ⟨_, rfl, _, _, rfl, ⟨_, us, rfl, fresh_relL hR hF cs us h k2, fun j x hj => hF _ _ (k1 j x hj) (by rw [add_none]; exact hge)⟩, _, _, rfl, rfl, rfl⟩
    · cases h
  · exact fresh_rel hR hF v u h k
def runFrP (P : Program) (F : Fns) (D : Nat → Bool) (S : Nat → Option (St → T (Ex × St))) (fn : Func) (args : List AV) {ρ : Type} (dec : AV → Option ρ) : T ρ :=
  (runBody P F D S fn args []).bind fun x => if freshP x.2 x.1 then optT (dec (AV.frz x.2 6 x.1)) else .fail
theorem entry_np_fresh {P : Program} {F : Fns} {D : Nat → Bool} {S : Nat → Option (St → T (Ex × St))} {ps : List Ty} {tt : Ty} {kk : IntKind} {t : dens ps → T (Option tt.den × Int)} (hm : P.follows .mixedOrders = true) (hF : QuietOK P F.quiet) (hD : DeepOK P F.deep) {g : FuncId} {fn : Func} (hfn : P.funcs[g]? = some fn) (hc : callable P g = true)
    (hS : ∀ c, fn.body = some c → SOK P 0 S c) (hn : Nat.ble ps.length fn.ntmps = true) (h : ∀ x, runFrP P F D S fn (encs ps x) (npDec tt kk) = t x) : FrOK P g (entryNP ps tt kk fun x => (t x).run) := by
  intro args v hv
  refine ⟨hc, fun r w us hι hp hgl hl => ?_⟩
  unfold entryNP at hv
  split at hv
  · rename_i x hx
    obtain ⟨y, h1, h2⟩ := run_opt hv
    have hvy : v = npOut tt kk y := by
      obtain ⟨o, n⟩ := y
      cases o with
      | none =>
        rcases run_ite h2 with ⟨_, h3⟩ | ⟨h3, _⟩
        · cases run_ret h3; rfl
        · cases h3
      | some d =>
        rcases run_ite h2 with ⟨h3, _⟩ | ⟨_, h3⟩
        · cases h3
        · obtain ⟨d', e1, e2⟩ := run_opt h3
          cases e1
          cases run_ret e2; rfl
    subst hvy
    have h1 : (t x).run = some y := h1
    rw [← h x] at h1
    unfold runFrP at h1
    obtain ⟨⟨v0, own'⟩, h3, h4⟩ := run_bind h1
    dsimp only at h4
    split at h4
    · rename_i hfr
      have h4 := run_optT h4
      have hR : Rel (P := P) ⟨w, r.H, fun _ => False⟩ (fun _ => False) (Sn []) [] r w :=
        ⟨rfl, rfl, .refl _, Nat.le_refl _, fun _ _ _ => rfl, hp, fun id k hs => by unfold Sn at hs; simp at hs, fun i j k l b C C' hi => by unfold Sn at hi; simp at hi, fun i _ => hι i, fun a v e => .inl e, fun i h => h.elim, hgl⟩
      refine (body_sound (own := []) hm hF hD hfn hS h3 hR (decs_rel hx hl) (by rw [encs_length]; exact Nat.le_of_ble_eq_true hn)).mono ?_
      rintro e w' ⟨u, r', rfl, k1, k2, k3⟩
      have hb : Below w.heap.size w w' := ⟨k2.os, k2.tape, k2.output, k2.size, fun b hb => k2.base b hb (fun h => h)⟩
      let rF : Res := { H := fun a => if w.heap.size ≤ a.block then w'.cell? a else none, ι := fun _ => none }
      refine ⟨u, rF, rfl, hb, fun a x e => ?_, fun _ => rfl, npDec_rel rF _ y u h4 ?_⟩
      · have e : (if w.heap.size ≤ a.block then w'.cell? a else none) = some x := e
        split at e
        · rename_i hge; exact ⟨e, hge⟩
        · cases e
      · have hFF : ∀ a x, w'.cell? a = some x → w.heap.size ≤ a.block → rF.H a = some x := fun a x e hge => by
          show (if w.heap.size ≤ a.block then w'.cell? a else none) = some x
          rw [if_pos hge]; exact e
        exact fresh_np k2 hFF v0 u hfr k3
    · exact (run_fail h4).elim
  · exact (run_fail hv).elim
end Go.Proofs.Pen
