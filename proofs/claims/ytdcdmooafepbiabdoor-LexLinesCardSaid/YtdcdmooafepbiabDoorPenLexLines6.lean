/- A part of the proof that the law LexLines is true of every input: models of the functions that the law reaches, and what holds of them. -/
import Derived.Test.YtdcdmooafepbiabDoorRows
import Derived.Lay
import Derived.LaidHandle
import Derived.KernelRfl
import Derived.WalkKit
import Derived.Lib.Walk
import Derived.Test.YtdcdmooafepbiabDoorChecked
import Derived.Lib.FieldsP
import Derived.Lib.SpaceUEq
import Derived.Lib.DecodeN
import Derived.Test.YtdcdmooafepbiabDoorPenKit0
import Derived.Test.YtdcdmooafepbiabDoorPenKit1
import Derived.Test.YtdcdmooafepbiabDoorPenKit2
import Derived.Test.YtdcdmooafepbiabDoorPenKit3
import Derived.Test.YtdcdmooafepbiabDoorPenLexLines4
import Derived.Test.YtdcdmooafepbiabDoorPenKit5
namespace Go.Proofs.Pen
open Go Go.Proofs Go.ChangeShapes Go.WideShapes Go.RowKit Go.Proofs.YtdcdmooafepbiabDoor

/-- What this program's laid variables read as. -/
def doorL : List (String × DataW Unit) := [("unicode/utf8.acceptRanges", Rows.laid_unicode_utf8_acceptRanges), ("unicode/utf8.first", Rows.laid_unicode_utf8_first)]

theorem no_errorType : Tryd.prog.globalNamed "errors.errorType" = none := by kernel_rfl
theorem door_glob : ∀ W, laidMetH Tryd.prog doorL W → ∀ a u, globOf Tryd.prog a = some u → W.cell? a = some u := fun W _ a u h => by
  unfold globOf at h
  rw [no_errorType] at h
  cases h

/-- A world in which they are laid. -/
noncomputable def doorWorld (os : Os) : World := World.laidAll Tryd.prog os doorL
theorem doorWorld_met (os : Os) (args : Array Value) : laidMetH Tryd.prog doorL ((doorWorld os).forCall (fun _ _ => 0) ⟨#[], args, []⟩).memory := by
  refine laidMetH_of_parts ?_ (by kernel_rfl)
  have h : (doorL.filter fun x => x.2.handleName?.isNone) = doorL := by kernel_rfl
  rw [h]
  exact laidMet_laidAll args (by kernel_rfl) (by kernel_rfl)

/-! ### The library's contracts -/
theorem fn_below {P : Program} {g : Nat} {args : List AV} {v : AV} (hc : callable P g = true)
    (h : ∀ (r : Res) (w : World) (us : List Value), LRel r args us → ∃ u, VRel r v u ∧ Calls P g us.toArray w fun e w' => e = .returned u ∧ Below w.heap.size w w') : FnAt P g args v := by
  refine ⟨hc, fun r w us hι hp _ hl => ?_⟩
  obtain ⟨u, hv, hk⟩ := h r w us hl
  refine hk.mono ?_
  rintro e w' ⟨rfl, hb⟩
  refine ⟨u, r, rfl, .refl r, hb, fun a x e => ?_, fun a x e => .inl e, hι, hv⟩
  have hc := hp a x e
  have hlt : a.block < w.heap.size := by
    rcases Nat.lt_or_ge a.block w.heap.size with h | h
    · exact h
    · simp [World.cell?, Array.getElem?_eq_none h] at hc
  rw [← hc]
  exact World.cell?_of_block (hb.block _ hlt)

theorem calls_below {P : Program} {g : Nat} {us : Array Value} {w : World} {u : Value} (h : Calls P g us w fun e w' => e = .returned u ∧ w' = w) : Calls P g us w fun e w' => e = .returned u ∧ Below w.heap.size w w' :=
  h.mono fun e w' k => ⟨k.1, k.2 ▸ Below.refl _ _⟩

def byteH (c : ByteArray) : UInt8 := c.data.getD 0 0
theorem byteOf_some {c : ByteArray} (h : c.size = 1) : c = ⟨#[byteH c]⟩ := by
  obtain ⟨⟨l⟩⟩ := c
  match l, h with
  | [b], _ => rfl

def trimR (s : ByteArray) (b : UInt8) : ByteArray := ⟨(Lib.trimRightB s.data.toList b).toArray⟩
def cutP (s p : ByteArray) : ByteArray := ⟨(Lib.trimPrefix s.data.toList p.data.toList).toArray⟩
def hasP (s p : ByteArray) : Bool := Lib.hasPrefix s.data.toList p.data.toList
def indexB (s : ByteArray) (b : UInt8) : Int := Lib.indexByte s.data.toList b
def countB (s : ByteArray) (b : UInt8) : Int := Lib.countByte s.data.toList b
def repB (s : ByteArray) (n : Int) : ByteArray := ⟨(Lib.repeatL s.data.toList n.toNat).toArray⟩

def trimAV (args : List AV) : T AV := match args with
  | [.sr s, .sr c] => .ite (decide (c.size = 1) && decide ((byteH c).toNat < 128) && decide (s.size ≤ 9223372036854775807)) (.ret (.sr (trimR s (byteH c)))) .fail
  | _ => .fail
theorem trim_ok : FnOK Tryd.prog 21 trimAV := by
  intro args v hv
  unfold trimAV at hv
  split at hv
  case h_2 => exact (run_fail hv).elim
  rename_i s c
  obtain ⟨h1, hv2⟩ := run_ite_fail hv
  clear hv
  simp only [Bool.and_eq_true, decide_eq_true_eq] at h1
  obtain ⟨⟨h0, h1⟩, h2⟩ := h1
  generalize hb : byteH c = b at hv2 h1
  have hc := byteOf_some h0
  rw [hb] at hc
  subst hc
  replace h1 := And.intro h1 h2
  cases run_ret hv2
  refine fn_below (by kernel_rfl) fun r w us hl => ?_
  simp only [LRel] at hl
  obtain ⟨u1, us1, rfl, k1, u2, us2, rfl, k2, rfl⟩ := hl
  simp only [VRel] at k1 k2
  subst k1 k2
  exact ⟨_, by simp only [VRel]; rfl, calls_below (Tryd.strings_TrimRight_one s b h1.1 w h1.2)⟩

def cutPrefixAV (args : List AV) : T AV := match args with
  | [.sr s, .sr p] => .ret (.tup [.sr (cutP s p), .bo (hasP s p)])
  | _ => .fail
theorem cutPrefix_ok : FnOK Tryd.prog 22 cutPrefixAV := by
  intro args v hv
  unfold cutPrefixAV at hv
  split at hv
  case h_2 => exact (run_fail hv).elim
  rename_i s p
  cases run_ret hv
  refine fn_below (by kernel_rfl) fun r w us hl => ?_
  simp only [LRel] at hl
  obtain ⟨u1, us1, rfl, k1, u2, us2, rfl, k2, rfl⟩ := hl
  simp only [VRel] at k1 k2
  subst k1 k2
  exact ⟨_, by simp only [VRel, LRel]; exact ⟨_, rfl, _, _, rfl, rfl, _, _, rfl, rfl, rfl⟩, calls_below (Tryd.strings_CutPrefix s p w)⟩

def indexAV1 (args : List AV) : T AV := match args with
  | [.sr s, .sr c] => .ite (decide (c.size = 1)) (.ret (.it .i64 (indexB s (byteH c)))) .fail
  | _ => .fail
theorem index_ok : FnOK Tryd.prog 47 indexAV1 := by
  intro args v hv
  unfold indexAV1 at hv
  split at hv
  case h_2 => exact (run_fail hv).elim
  rename_i s c
  obtain ⟨h0, hv2⟩ := run_ite_fail hv
  clear hv
  simp only [decide_eq_true_eq] at h0
  generalize hb : byteH c = b at hv2
  have hc := byteOf_some h0
  rw [hb] at hc
  subst hc
  cases run_ret hv2
  refine fn_below (by kernel_rfl) fun r w us hl => ?_
  simp only [LRel] at hl
  obtain ⟨u1, us1, rfl, k1, u2, us2, rfl, k2, rfl⟩ := hl
  simp only [VRel] at k1 k2
  subst k1 k2
  exact ⟨_, by simp only [VRel]; rfl, calls_below (Tryd.stringslite_Index_one s b w)⟩

def countAV1 (args : List AV) : T AV := match args with
  | [.sr s, .sr c] => .ite (decide (c.size = 1)) (.ret (.it .i64 (countB s (byteH c)))) .fail
  | _ => .fail
theorem count_ok : FnOK Tryd.prog 53 countAV1 := by
  intro args v hv
  unfold countAV1 at hv
  split at hv
  case h_2 => exact (run_fail hv).elim
  rename_i s c
  obtain ⟨h0, hv2⟩ := run_ite_fail hv
  clear hv
  simp only [decide_eq_true_eq] at h0
  generalize hb : byteH c = b at hv2
  have hc := byteOf_some h0
  rw [hb] at hc
  subst hc
  cases run_ret hv2
  refine fn_below (by kernel_rfl) fun r w us hl => ?_
  simp only [LRel] at hl
  obtain ⟨u1, us1, rfl, k1, u2, us2, rfl, k2, rfl⟩ := hl
  simp only [VRel] at k1 k2
  subst k1 k2
  exact ⟨_, by simp only [VRel]; rfl, calls_below (Tryd.strings_Count_one s b w)⟩

def repeatAV (args : List AV) : T AV := match args with
  | [.sr s, .it .i64 n] => .ite (decide (0 ≤ n) && decide ((s.size : Int) * n ≤ 140737488355328) && decide (n ≤ 9223372036854775807)) (.ret (.sr (repB s n))) .fail
  | _ => .fail
theorem repeat_ok : FnOK Tryd.prog 24 repeatAV := by
  intro args v hv
  unfold repeatAV at hv
  split at hv
  case h_2 => exact (run_fail hv).elim
  rename_i s n
  obtain ⟨h1, hv⟩ := run_ite_fail hv
  simp only [Bool.and_eq_true, decide_eq_true_eq] at h1
  obtain ⟨⟨h0, h1⟩, h2⟩ := h1
  cases run_ret hv
  obtain ⟨c, rfl⟩ : ∃ c : Nat, n = c := ⟨n.toNat, by omega⟩
  refine fn_below (by kernel_rfl) fun r w us hl => ?_
  simp only [LRel] at hl
  obtain ⟨u1, us1, rfl, k1, u2, us2, rfl, k2, rfl⟩ := hl
  simp only [VRel] at k1 k2
  subst k1 k2
  have h1 : s.size * c ≤ 140737488355328 := by
    have : ((s.size * c : Nat) : Int) ≤ 140737488355328 := by rw [Int.natCast_mul]; exact h1
    omega
  exact ⟨_, by simp only [VRel]; rfl, Tryd.strings_Repeat s c w (by omega) h1⟩
end Go.Proofs.Pen

namespace Go.Proofs.Pen
open Go Go.Proofs Go.RowKit Go.Lib Go.Shelf

/-! ### strings.FieldsFunc with lex.Words' closure -/
def blankN (n : Nat) : Bool := n == 32 || n == 9

theorem blank_gives (W : World) (x : Nat) : FnGives Tryd.prog 28 #[] #[encR x] (.bool (blankN x)) W := by
  unfold FnGives blankN encR
  by_cases h1 : x = 32
  · subst h1
    go_enter Tryd.func28, Tryd.ntmps28
    go_wp2
    go_ret
    exact ⟨rfl, 0, rfl⟩
  · by_cases h2 : x = 9
    · subst h2
      go_enter Tryd.func28, Tryd.ntmps28
      go_wp2
      go_ret
      exact ⟨rfl, 0, rfl⟩
    · have e1 : ((x : Int) == 32) = false := by simp; omega
      have e2 : ((x : Int) == 9) = false := by simp; omega
      have e3 : (x == 32 || x == 9) = false := by simp [h1, h2]
      rw [e3]
      go_enter Tryd.func28, Tryd.ntmps28
      go_wp2
      go_ret
      exact ⟨rfl, 0, rfl⟩

theorem fn_texts {P : Program} {g : Nat} {args : List AV} {xs : List ByteArray} (hc : callable P g = true)
    (h : ∀ (r : Res) (w : World) (us : List Value), LRel r args us → Calls P g us.toArray w fun e w' => ∃ A, e = .returned (.slice (some ⟨A, 0, none⟩) xs.length xs.length) ∧ w.heap.size ≤ A ∧
      (∀ j u, (xs.map Value.string)[j]? = some u → w'.cell? ((⟨A, 0, none⟩ : Addr).add j) = some u) ∧ Below w.heap.size w w') : FnAt P g args (.sl .str xs) := by
  refine ⟨hc, fun r w us hι hp _ hl => (h r w us hl).mono ?_⟩
  rintro e w' ⟨A, rfl, hA, hx, hb⟩
  have hlt : ∀ a x, r.H a = some x → a.block < w.heap.size := fun a x e => by
    have hc := hp a x e
    rcases Nat.lt_or_ge a.block w.heap.size with h | h
    · exact h
    · simp [World.cell?, Array.getElem?_eq_none h] at hc
  let r' : Res := { H := fun a => if a.block < w.heap.size then r.H a else w'.cell? a, ι := r.ι }
  have hH : ∀ a, r'.H a = if a.block < w.heap.size then r.H a else w'.cell? a := fun _ => rfl
  refine ⟨_, r', rfl, ⟨fun a x e => by rw [hH, if_pos (hlt a x e)]; exact e, fun _ _ e => e⟩, hb, fun a x e => ?_, fun a x e => ?_, hι, ?_⟩
  · rw [hH] at e
    split at e
    · rename_i hlt'
      rw [← hp a x e]
      exact World.cell?_of_block (hb.block _ hlt')
    · exact e
  · rw [hH] at e
    split at e
    · exact .inl e
    · rename_i h; exact .inr (by omega)
  · simp only [VRel]
    refine ⟨_, _, rfl, Nat.le_refl _, fun _ => ⟨⟨A, 0, none⟩, rfl, fun i x hi => ⟨[.string x], rfl, rfl, fun j u hu => ?_⟩⟩⟩
    cases j with
    | zero =>
      have hu : Value.string x = u := by simpa using hu
      subst hu
      have hm : (xs.map Value.string)[i]? = some (Value.string x) := by rw [List.getElem?_map]; exact congrArg (Option.map Value.string) (show xs[i]? = some x from hi)
      have hcell := hx i _ hm
      have ead : ((⟨A, 0, none⟩ : Addr).add (i * 1)).add 0 = (⟨A, 0, none⟩ : Addr).add i := by simp [Addr.add]
      show r'.H (((⟨A, 0, none⟩ : Addr).add (i * 1)).add 0) = _
      rw [ead, hH]
      have hb2 : ((⟨A, 0, none⟩ : Addr).add i).block = A := by rw [Addr.add_lit]
      rw [hb2, if_neg (by omega)]
      exact hcell
    | succ j => simp at hu

def fieldsAV (args : List AV) : T AV := match args with
  | [.sr s, .clo f [] []] => if f = 28 then .ite (decide (s.size ≤ 4294967296)) (.ret (.sl .str (goFieldsP blankN s))) .fail else .fail
  | _ => .fail
theorem fields_ok : FnOK Tryd.prog 29 fieldsAV := by
  intro args v hv
  unfold fieldsAV at hv
  split at hv
  case h_2 => exact (run_fail hv).elim
  rename_i s f
  split at hv
  case isFalse => exact (run_fail hv).elim
  rename_i hf
  subst hf
  obtain ⟨h1, hv⟩ := run_ite_fail hv
  simp only [decide_eq_true_eq] at h1
  cases run_ret hv
  refine fn_texts (by kernel_rfl) fun r w us hl => ?_
  simp only [LRel] at hl
  obtain ⟨u1, us1, rfl, k1, u2, us2, rfl, k2, rfl⟩ := hl
  simp only [VRel, LRel] at k1 k2
  obtain ⟨x1, x2, rfl, rfl, rfl⟩ := k2
  subst k1
  refine (Tryd.strings_FieldsFunc 28 #[] (enters_of Tryd.func28 (by kernel_rfl) rfl) blankN s w h1 (fun W x _ => blank_gives W x)).mono ?_
  rintro e w' ⟨A, rfl, hA, ho, hb⟩
  exact ⟨A, rfl, hA, ho.cells rfl, hb⟩
end Go.Proofs.Pen

namespace Go.Proofs.Pen
open Go Go.Proofs

/-- A function that is never reached: nothing is said of it. -/
def failAV (_ : List AV) : T AV := .fail
theorem fail_ok {P : Program} {g : Nat} : FnOK P g failAV := fun _ _ hv => (run_fail hv).elim
end Go.Proofs.Pen

namespace Go.Proofs.Pen
open Go Go.Proofs
abbrev TI : Ty := (.int .i64)
theorem mixed : Tryd.prog.follows .mixedOrders = true := by kernel_rfl
noncomputable def Xs : Nat → List AV → T AV := ext (ext (ext (ext (ext (ext (ext noQ 21 trimAV) 22 cutPrefixAV) 24 repeatAV) 47 indexAV1) 53 countAV1) 29 fieldsAV) 52 failAV
theorem Xok : QuietOK Tryd.prog Xs := quiet_ext (quiet_ext (quiet_ext (quiet_ext (quiet_ext (quiet_ext (quiet_ext (quiet_none _) trim_ok) cutPrefix_ok) repeat_ok) index_ok) count_ok) fields_ok) fail_ok
end Go.Proofs.Pen

namespace Go.Proofs.Pen
open Go Go.Proofs
noncomputable def internal_stringslite_Cut.t (x : ByteArray × ByteArray) : T (ByteArray × ByteArray × Bool) := T.ite (decide (ByteArray.size x.2 = (1 : Nat))) (T.ite (decide (indexB x.1 (byteH x.2) ≥ (0 : Int))) (T.ite (decide ((0 : Int) ≤ (0 : Int)) && decide ((0 : Int) ≤ indexB x.1 (byteH x.2)) && decide (indexB x.1 (byteH x.2) ≤ (↑(ByteArray.size x.1) : Int))) (T.ite (decide ((0 : Int) ≤ W (indexB x.1 (byteH x.2) + (↑(ByteArray.size x.2) : Int))) && decide (W (indexB x.1 (byteH x.2) + (↑(ByteArray.size x.2) : Int)) ≤ (↑(ByteArray.size x.1) : Int)) && decide ((↑(ByteArray.size x.1) : Int) ≤ (↑(ByteArray.size x.1) : Int))) (T.ret (ByteArray.extract x.1 (Int.toNat (0 : Int)) (indexB x.1 (byteH x.2)).toNat, ByteArray.extract x.1 (W (indexB x.1 (byteH x.2) + (↑(ByteArray.size x.2) : Int))).toNat (↑(ByteArray.size x.1) : Int).toNat, true)) T.fail) T.fail) (T.ret (x.1, (ByteArray.mk #[]), false))) T.fail
noncomputable def internal_stringslite_Cut (x : ByteArray × ByteArray) : Option (ByteArray × ByteArray × Bool) := (internal_stringslite_Cut.t x).run
noncomputable def internal_stringslite_Cut.q : List AV → T AV := entry [.str, .str] (outR [.str, .str, .bool]) fun x => .opt (internal_stringslite_Cut x) .ret
theorem internal_stringslite_Cut.ok : FnOK Tryd.prog 35 internal_stringslite_Cut.q :=
  entry_call (ps := [.str, .str]) (rs := [.str, .str, .bool]) (F := ({ quiet := Xs, deep := noDeep } : Fns)) (D := D0) (S := tabS []) (t := internal_stringslite_Cut.t) mixed Xok (deep_none _) Tryd.func35 (by kernel_rfl) (sok_fn trivial) (by kernel_rfl) (fun x => by kernel_rfl)
end Go.Proofs.Pen

namespace Go.Proofs.Pen
open Go Go.Proofs
noncomputable def strings_Cut.t (x : ByteArray × ByteArray) : T (ByteArray × ByteArray × Bool) := T.opt (internal_stringslite_Cut x) fun y => T.ret y
noncomputable def strings_Cut (x : ByteArray × ByteArray) : Option (ByteArray × ByteArray × Bool) := (strings_Cut.t x).run
noncomputable def strings_Cut.q : List AV → T AV := entry [.str, .str] (outR [.str, .str, .bool]) fun x => .opt (strings_Cut x) .ret
theorem strings_Cut.ok : FnOK Tryd.prog 23 strings_Cut.q :=
  entry_call (ps := [.str, .str]) (rs := [.str, .str, .bool]) (F := ({ quiet := (ext Xs 35 internal_stringslite_Cut.q), deep := noDeep } : Fns)) (D := D0) (S := tabS []) (t := strings_Cut.t) mixed (quiet_ext Xok internal_stringslite_Cut.ok) (deep_none _) Tryd.func23 (by kernel_rfl) (sok_fn trivial) (by kernel_rfl) (fun x => by kernel_rfl)
end Go.Proofs.Pen

namespace Go.Proofs.Pen
open Go Go.Proofs
noncomputable def lex_Words.t (x : ByteArray) : T ((List (ByteArray))) := T.opt (strings_Cut (x, (ByteArray.mk #[(35 : UInt8)]))) fun y => T.ite (decide (ByteArray.size y.1 ≤ (4294967296 : Nat))) (T.ret (Lib.goFieldsP blankN y.1)) T.fail
noncomputable def lex_Words (x : ByteArray) : Option ((List (ByteArray))) := (lex_Words.t x).run
noncomputable def lex_Words.q : List AV → T AV := entry [.str] (outR [(.sl .str)]) fun x => .opt (lex_Words x) .ret
theorem lex_Words.ok : FnOK Tryd.prog 19 lex_Words.q :=
  entry_call (ps := [.str]) (rs := [(.sl .str)]) (F := ({ quiet := (ext Xs 23 strings_Cut.q), deep := noDeep } : Fns)) (D := D0) (S := tabS []) (t := lex_Words.t) mixed (quiet_ext Xok strings_Cut.ok) (deep_none _) Tryd.func19 (by kernel_rfl) (sok_fn trivial) (by kernel_rfl) (fun x => by kernel_rfl)
end Go.Proofs.Pen

namespace Go.Proofs.Pen
open Go Go.Proofs
def ref23_Words.L0 : List (Nat × Lay) := [(0, .val .str), (3, .row .str), (4, .val .str), (5, .val TI)]
noncomputable def ref23_Words.t0 (x : ByteArray × List ByteArray × ByteArray × Int × Unit) : T (Ex × ByteArray × List ByteArray × ByteArray × Int × Unit) := T.ite (decide (x.2.2.2.1 < (↑(ByteArray.size x.1) : Int))) (T.opt (sget x.1 x.2.2.2.1) fun y => T.ite (y != (35 : Int)) (T.opt (sget x.1 x.2.2.2.1) fun y => T.ite (y != (32 : Int)) (T.opt (sget x.1 x.2.2.2.1) fun y => T.ite (y != (9 : Int)) (T.ite (decide ((0 : Int) ≤ x.2.2.2.1) && decide (x.2.2.2.1 ≤ W (x.2.2.2.1 + (1 : Int))) && decide (W (x.2.2.2.1 + (1 : Int)) ≤ (↑(ByteArray.size x.1) : Int))) (T.ite (decide ((↑(ByteArray.size x.2.2.1 + (ByteArray.extract x.1 (Int.toNat x.2.2.2.1) (W (x.2.2.2.1 + (1 : Int))).toNat).size) : Int) > IntKind.i64.max)) T.fail (T.ret (Ex.normal, x.1, List.take x.2.1.length x.2.1, x.2.2.1 ++ ByteArray.extract x.1 (Int.toNat x.2.2.2.1) (W (x.2.2.2.1 + (1 : Int))).toNat, W (x.2.2.2.1 + (1 : Int)), ()))) T.fail) (T.ite (!ByteArray.toList x.2.2.1 == (ByteArray.mk #[]).toList) (T.ite (decide ((x.2.1.length + (1 : Nat)) * nat_lit 16 ≤ most)) (T.ret (Ex.normal, x.1, List.take (x.2.1.length + (1 : Nat)) (List.take x.2.1.length x.2.1 ++ [x.2.2.1]), (ByteArray.mk #[]), W (x.2.2.2.1 + (1 : Int)), ())) T.fail) (T.ret (Ex.normal, x.1, List.take x.2.1.length x.2.1, (ByteArray.mk #[]), W (x.2.2.2.1 + (1 : Int)), ())))) (T.ite (!ByteArray.toList x.2.2.1 == (ByteArray.mk #[]).toList) (T.ite (decide ((x.2.1.length + (1 : Nat)) * nat_lit 16 ≤ most)) (T.ret (Ex.normal, x.1, List.take (x.2.1.length + (1 : Nat)) (List.take x.2.1.length x.2.1 ++ [x.2.2.1]), (ByteArray.mk #[]), W (x.2.2.2.1 + (1 : Int)), ())) T.fail) (T.ret (Ex.normal, x.1, List.take x.2.1.length x.2.1, (ByteArray.mk #[]), W (x.2.2.2.1 + (1 : Int)), ())))) (T.ret (Ex.exit (0 : Nat), x.1, List.take x.2.1.length x.2.1, x.2.2.1, x.2.2.2.1, ()))) (T.ret (Ex.exit (0 : Nat), x.1, List.take x.2.1.length x.2.1, x.2.2.1, x.2.2.2.1, ()))
noncomputable def ref23_Words.l0 (x : ByteArray × List ByteArray × ByteArray × Int × Unit) : Option (Ex × ByteArray × List ByteArray × ByteArray × Int × Unit) := (iterT ref23_Words.t0 rounds x).run
theorem ref23_Words.k0 : bodies 0 (lp Tryd.f17 []) = [.loop (loopIn 0 (lp Tryd.f17 []))] ∧ WP Tryd.prog 0 (.block 0 (.loop (loopIn 0 (lp Tryd.f17 [])))) (loopS ref23_Words.L0 48 0 [.exit 0] ref23_Words.l0) :=
  loop_tree (L := ref23_Words.L0) (F := ({ quiet := Xs, deep := noDeep } : Fns)) (D := D0) (tab := []) (t := ref23_Words.t0) mixed Xok (deep_none _) (fun _ => rfl) (by kernel_rfl) (by kernel_rfl) trivial (fun x => by kernel_rfl)
noncomputable def ref23_Words.t (x : ByteArray) : T ((List (ByteArray))) := T.opt (ref23_Words.l0 (x, [], (ByteArray.mk #[]), (0 : Int), ())) fun y => T.ite (exEq y.1 (Ex.exit (0 : Nat))) (T.ite (!ByteArray.toList y.2.2.2.1 == (ByteArray.mk #[]).toList) (T.ite (decide ((y.2.2.1.length + (1 : Nat)) * nat_lit 16 ≤ most)) (T.ret (List.take (y.2.2.1.length + (1 : Nat)) (List.take y.2.2.1.length y.2.2.1 ++ [y.2.2.2.1]))) T.fail) (T.ret (List.take y.2.2.1.length y.2.2.1))) T.fail
noncomputable def ref23_Words (x : ByteArray) : Option ((List (ByteArray))) := (ref23_Words.t x).run
noncomputable def ref23_Words.q : List AV → T AV := entry [.str] (outR [(.sl .str)]) fun x => .opt (ref23_Words x) .ret
theorem ref23_Words.ok : FnOK Tryd.prog 17 ref23_Words.q :=
  entry_call (ps := [.str]) (rs := [(.sl .str)]) (F := ({ quiet := Xs, deep := noDeep } : Fns)) (D := D0) (S := tabS [(0, loopS ref23_Words.L0 48 0 [.exit 0] ref23_Words.l0)]) (t := ref23_Words.t) mixed Xok (deep_none _) Tryd.func17 (by kernel_rfl) (sok_fn ⟨ref23_Words.k0, trivial⟩) (by kernel_rfl) (fun x => by kernel_rfl)
end Go.Proofs.Pen

namespace Go.Proofs.Pen
open Go Go.Proofs

theorem tr_yes {α : Type} {b : Bool} {x y : T α} (h : b = true) : (T.ite b x y).run = x.run := by rw [tr_ite, if_pos h]
theorem tr_no {α : Type} {b : Bool} {x y : T α} (h : b = false) : (T.ite b x y).run = y.run := by rw [tr_ite, h, if_neg (by simp)]

/-! ### Texts as lists of bytes -/
def B (l : List UInt8) : ByteArray := ⟨l.toArray⟩
theorem B_size (l : List UInt8) : (B l).size = l.length := by simp [B, ByteArray.size]
theorem B_app (l m : List UInt8) : B l ++ B m = B (l ++ m) := by
  apply ByteArray.ext
  simp [B]
theorem B_data (l : List UInt8) : (B l).data.toList = l := by simp [B]
theorem B_toList (l : List UInt8) : (B l).toList = l := by rw [ByteArray.toList_eq, B_data]
theorem B_self (s : ByteArray) : B s.data.toList = s := by simp [B]
theorem B_extract (l : List UInt8) (i j : Nat) : (B l).extract i j = B ((l.take j).drop i) := by
  apply ByteArray.ext
  simp [B, ByteArray.data_extract, List.drop_take]
theorem sget_B (l : List UInt8) (i : Nat) : sget (B l) (i : Int) = (l[i]?).map fun b => (b.toNat : Int) := by
  unfold sget
  rw [if_neg (by omega), Int.toNat_natCast]
  congr 1
  by_cases h : i < l.length
  · rw [getElem?_pos (B l) i (by rw [B_size]; exact h), List.getElem?_eq_getElem h]; simp [B, ByteArray.getElem_eq_getElem_data]
  · rw [getElem?_neg (B l) i (by rw [B_size]; exact h), List.getElem?_eq_none (by omega)]
theorem sget_mid (pre : List UInt8) (b : UInt8) (l : List UInt8) : sget (B (pre ++ b :: l)) (pre.length : Int) = some (b.toNat : Int) := by
  rw [sget_B, List.getElem?_append_right (Nat.le_refl _), Nat.sub_self, List.getElem?_cons_zero, Option.map_some]
theorem get_B (l : List UInt8) {i : Nat} (h : i < l.length) : (B l).get! i = l[i] := by
  unfold B ByteArray.get!
  simp [h]

/-! ### A rune is blank as its first byte is -/
theorem decN_low {n b0 b1 b2 b3 : Nat} (h : b0 < 128) : Lib.decodeN n b0 b1 b2 b3 = (b0, 1) := by
  unfold Lib.decodeN
  rw [if_pos h]
theorem decN_high {n b0 b1 b2 b3 : Nat} (h : 128 ≤ b0) : 128 ≤ (Lib.decodeN n b0 b1 b2 b3).1 ∧ 1 ≤ (Lib.decodeN n b0 b1 b2 b3).2 := by
  unfold Lib.decodeN
  repeat' split
  all_goals (simp only; omega)

theorem rune_low (l : List UInt8) {i : Nat} (h : i < l.length) (hb : (l[i]).toNat < 128) : Utf8.decode (B l) i = ((l[i]).toNat, 1) := by
  have e := get_B l h
  rw [Lib.decode_at, e]
  exact decN_low hb

theorem rune_high (l : List UInt8) {i : Nat} (h : i < l.length) (hb : 128 ≤ (l[i]).toNat) :
    128 ≤ (Utf8.decode (B l) i).1 ∧ 1 ≤ (Utf8.decode (B l) i).2 ∧ ∀ j, j < (Utf8.decode (B l) i).2 → ∃ h : i + j < l.length, 128 ≤ (l[i + j]).toNat := by
  have e := get_B l h
  rw [Lib.decode_at, e]
  obtain ⟨c1, c2, c3, c4⟩ := Lib.decodeN_conts ((B l).size - i) (l[i]).toNat ((B l).get! (i + 1)).toNat ((B l).get! (i + 2)).toNat ((B l).get! (i + 3)).toNat
  obtain ⟨d1, d2⟩ := decN_high (n := (B l).size - i) (b1 := ((B l).get! (i + 1)).toNat) (b2 := ((B l).get! (i + 2)).toNat) (b3 := ((B l).get! (i + 3)).toNat) hb
  refine ⟨d1, d2, fun j hj => ?_⟩
  rw [B_size] at c1 c2 c3
  have key : ∀ k, ((B l).get! (i + k)).toNat / 64 = 2 → k < l.length - i → ∃ h : i + k < l.length, 128 ≤ (l[i + k]).toNat := fun k h1 h2 => by
    have hk : i + k < l.length := by omega
    rw [get_B l hk] at h1
    exact ⟨hk, by omega⟩
  rw [B_size] at hj c4
  match j, hj with
  | 0, _ => exact ⟨h, hb⟩
  | 1, hj => obtain ⟨a, b⟩ := c1 (by omega); exact key 1 a b
  | 2, hj => obtain ⟨a, b⟩ := c2 (by omega); exact key 2 a b
  | 3, hj => obtain ⟨a, b⟩ := c3 (by omega); exact key 3 a b
  | j + 4, hj => omega
end Go.Proofs.Pen

namespace Go.Proofs.Pen
open Go Go.Proofs

def isB (b : UInt8) : Bool := b == 32 || b == 9
theorem isB_nat (b : UInt8) : blankN b.toNat = isB b := by
  unfold blankN isB
  have e1 : (b.toNat == 32) = (b == 32) := by
    rw [Bool.eq_iff_iff, beq_iff_eq, beq_iff_eq, ← UInt8.toNat_inj]; rfl
  have e2 : (b.toNat == 9) = (b == 9) := by
    rw [Bool.eq_iff_iff, beq_iff_eq, beq_iff_eq, ← UInt8.toNat_inj]; rfl
  rw [e1, e2]

/-- The words of a text, byte by byte; 'cur': the word that is open. -/
def wd : List UInt8 → List UInt8 → List (List UInt8)
  | [], cur => if cur = [] then [] else [cur]
  | b :: l, cur => if isB b = true then (if cur = [] then wd l [] else cur :: wd l []) else wd l (cur ++ [b])

theorem wd_skip : ∀ (k : Nat) (l cur : List UInt8), (∀ j, j < k → ∃ h : j < l.length, 128 ≤ (l[j]).toNat) → wd l cur = wd (l.drop k) (cur ++ l.take k)
  | 0, l, cur, _ => by simp
  | k + 1, [], cur, h => by obtain ⟨h0, _⟩ := h 0 (by omega); simp at h0
  | k + 1, b :: l, cur, h => by
    obtain ⟨_, h0⟩ := h 0 (by omega)
    have hb : isB b = false := by
      rw [← isB_nat]
      have h0 : 128 ≤ b.toNat := h0
      unfold blankN
      rw [Bool.or_eq_false_iff, beq_eq_false_iff_ne, beq_eq_false_iff_ne]
      omega
    have ih := wd_skip k l (cur ++ [b]) fun j hj => by
      obtain ⟨a, c⟩ := h (j + 1) (by omega)
      exact ⟨by simpa using a, by simpa using c⟩
    simp only [wd, hb, Bool.false_eq_true, if_false, List.drop_succ_cons, List.take_succ_cons]
    rw [ih]
    simp

def pc (l : List UInt8) (a b : Nat) : List UInt8 := (l.take b).drop a
def op (l : List UInt8) (st : Option Nat) (pos : Nat) : List UInt8 := match st with
  | some a => pc l a pos
  | none => []

theorem pc_grow {l : List UInt8} {a pos k : Nat} (h : a ≤ pos) (hl : pos ≤ l.length) : pc l a pos ++ (l.drop pos).take k = pc l a (pos + k) := by
  unfold pc
  rw [List.take_add, List.drop_append_of_le_length (by rw [List.length_take]; omega)]
theorem pc_ne {l : List UInt8} {a pos : Nat} (h : a < pos) (hl : pos ≤ l.length) : pc l a pos ≠ [] := fun e => by
  have := congrArg List.length e
  unfold pc at this
  rw [List.length_drop, List.length_take] at this
  simp at this
  omega

theorem pc_self (l : List UInt8) (a : Nat) : pc l a a = [] := by
  unfold pc
  rw [List.drop_eq_nil_of_le (by rw [List.length_take]; omega)]

def extB (l : List UInt8) (x : Nat × Nat) : ByteArray := (B l).extract x.1 x.2

theorem spans_wd (l : List UInt8) : ∀ (f pos : Nat) (st : Option Nat) (acc : List (Nat × Nat)), pos ≤ l.length → l.length - pos ≤ f → (∀ a, st = some a → a < pos) →
    (Lib.closeSpans (B l) (Lib.spansFromP blankN (B l) f pos st acc)).map (extB l) = acc.map (extB l) ++ (wd (l.drop pos) (op l st pos)).map B
  | f, pos, st, acc, hp, hf, hst => by
    by_cases hlt : pos < l.length
    · obtain ⟨f, rfl⟩ : ∃ f', f = f' + 1 := ⟨f - 1, by omega⟩
      unfold Lib.spansFromP
      rw [if_pos (by rw [B_size]; exact hlt)]
      have hdrop : l.drop pos = l[pos] :: l.drop (pos + 1) := List.drop_eq_getElem_cons hlt
      by_cases hlow : (l[pos]).toNat < 128
      · rw [rune_low l hlt hlow]
        dsimp only
        rw [isB_nat, hdrop]
        by_cases hb : isB l[pos] = true
        · rw [if_pos hb]
          cases st with
          | none =>
            dsimp only
            rw [spans_wd l f (pos + 1) none acc (by omega) (by omega) (fun a e => by cases e)]
            simp only [wd, hb, if_true, op]
          | some a =>
            dsimp only
            rw [spans_wd l f (pos + 1) none (acc ++ [(a, pos)]) (by omega) (by omega) (fun a e => by cases e)]
            have hne : op l (some a) pos ≠ [] := pc_ne (hst a rfl) hp
            have : extB l (a, pos) = B (op l (some a) pos) := by unfold extB op pc; rw [B_extract]
            simp only [wd, hb, if_true, if_neg hne, List.map_append, List.map_cons, List.map_nil, List.append_assoc, List.cons_append, List.nil_append, this]
            rfl
        · rw [if_neg hb]
          cases st with
          | none =>
            dsimp only
            rw [spans_wd l f (pos + 1) (some pos) acc (by omega) (by omega) (fun a e => by cases e; omega)]
            have : op l (some pos) (pos + 1) = [l[pos]] := by
              show pc l pos (pos + 1) = _
              rw [← pc_grow (Nat.le_refl _) hp, hdrop, pc_self]
              rfl
            rw [this]
            simp only [wd, if_neg hb, op, List.nil_append]
          | some a =>
            dsimp only
            rw [spans_wd l f (pos + 1) (some a) acc (by omega) (by omega) (fun a' e => by cases e; have := hst a rfl; omega)]
            have : op l (some a) (pos + 1) = op l (some a) pos ++ [l[pos]] := by
              show pc l a (pos + 1) = pc l a pos ++ _
              rw [← pc_grow (Nat.le_of_lt (hst a rfl)) hp, hdrop]
              rfl
            rw [this]
            simp only [wd, if_neg hb]
      · obtain ⟨h1, h2, h3⟩ := rune_high l hlt (by omega)
        generalize hk : Utf8.decode (B l) pos = rk at *
        obtain ⟨r, k⟩ := rk
        dsimp only at h1 h2 h3 ⊢
        have hb : blankN r = false := by
          unfold blankN
          rw [Bool.or_eq_false_iff, beq_eq_false_iff_ne, beq_eq_false_iff_ne]
          omega
        rw [hb, if_neg (by simp)]
        have hkl : pos + k ≤ l.length := by
          obtain ⟨a, _⟩ := h3 (k - 1) (by omega)
          omega
        have hs : ∀ cur, wd (l.drop pos) cur = wd (l.drop (pos + k)) (cur ++ (l.drop pos).take k) := fun cur => by
          rw [wd_skip k (l.drop pos) cur (fun j hj => by
            obtain ⟨a, b⟩ := h3 j hj
            refine ⟨by rw [List.length_drop]; omega, ?_⟩
            rw [List.getElem_drop]; exact b), List.drop_drop]
        cases st with
        | none =>
          dsimp only
          rw [spans_wd l f (pos + k) (some pos) acc hkl (by omega) (fun a e => by cases e; omega), hs]
          have : op l (some pos) (pos + k) = op l none pos ++ (l.drop pos).take k := by
            show pc l pos (pos + k) = _
            rw [← pc_grow (Nat.le_refl _) hp]
            simp [pc, op]
          rw [this]
        | some a =>
          dsimp only
          rw [spans_wd l f (pos + k) (some a) acc hkl (by omega) (fun a' e => by cases e; have := hst a rfl; omega), hs]
          have : op l (some a) (pos + k) = op l (some a) pos ++ (l.drop pos).take k := by
            show pc l a (pos + k) = _
            rw [← pc_grow (Nat.le_of_lt (hst a rfl)) hp]
            rfl
          rw [this]
    · have hpe : pos = l.length := by omega
      subst hpe
      rw [Lib.spansFromP_end _ _ _ _ _ _ (by rw [B_size]; omega), List.drop_length]
      cases st with
      | none => simp [Lib.closeSpans, wd, op]
      | some a =>
        have hne : op l (some a) l.length ≠ [] := pc_ne (hst a rfl) (Nat.le_refl _)
        have : extB l (a, (B l).size) = B (op l (some a) l.length) := by unfold extB op pc; rw [B_extract, B_size]
        simp only [Lib.closeSpans, wd, if_neg hne, List.map_append, List.map_cons, List.map_nil, this]

theorem fields_wd (l : List UInt8) : Lib.goFieldsP blankN (B l) = (wd l []).map B := by
  unfold Lib.goFieldsP Lib.spansOfP
  have := spans_wd l (B l).size 0 none [] (by omega) (by rw [B_size]; omega) (fun a e => by cases e)
  rw [List.map_nil, List.nil_append, List.drop_zero] at this
  exact this
end Go.Proofs.Pen

namespace Go.Proofs.Pen
open Go Go.Proofs

theorem index_none : ∀ {l : List UInt8} {c : UInt8}, c ∉ l → Lib.indexByte l c = -1
  | [], _, _ => rfl
  | b :: l, c, h => by
    have h1 : b ≠ c := fun e => h (by simp [e])
    have h2 := index_none (l := l) (c := c) fun e => h (by simp [e])
    unfold Lib.indexByte
    rw [if_neg (by simpa using h1), h2]
    rfl
theorem index_first : ∀ {a : List UInt8} {c : UInt8} {b : List UInt8}, c ∉ a → Lib.indexByte (a ++ c :: b) c = (a.length : Int)
  | [], c, b, _ => by
    rw [List.nil_append, Lib.indexByte, if_pos (by simp)]; rfl
  | x :: a, c, b, h => by
    have h1 : x ≠ c := fun e => h (by simp [e])
    have h2 := index_first (a := a) (c := c) (b := b) fun e => h (by simp [e])
    rw [List.cons_append, Lib.indexByte, if_neg (by simpa using h1), h2, if_neg (by simp; try omega)]
    simp
theorem first_of (c : UInt8) : ∀ l : List UInt8, c ∉ l ∨ ∃ a b, l = a ++ c :: b ∧ c ∉ a
  | [] => .inl (by simp)
  | x :: l => by
    by_cases hx : x = c
    · exact .inr ⟨[], l, by simp [hx], by simp⟩
    · rcases first_of c l with h | ⟨a, b, rfl, h⟩
      · exact .inl (by simp only [List.mem_cons, not_or]; exact ⟨fun e => hx e.symm, h⟩)
      · exact .inr ⟨x :: a, b, by simp, by simp only [List.mem_cons, not_or]; exact ⟨fun e => hx e.symm, h⟩⟩

theorem indexB_B (l : List UInt8) (c : UInt8) : indexB (B l) c = Lib.indexByte l c := by unfold indexB; rw [B_data]
theorem byteH_one (c : UInt8) : byteH (B [c]) = c := rfl

theorem cut_none {l : List UInt8} {c : UInt8} (h : c ∉ l) : strings_Cut (B l, B [c]) = some (B l, B [], false) := by
  have : internal_stringslite_Cut (B l, B [c]) = some (B l, B [], false) := by
    unfold internal_stringslite_Cut internal_stringslite_Cut.t
    dsimp only
    rw [tr_yes (by rw [B_size]; rfl), byteH_one, indexB_B, index_none h, tr_no (by decide), tr_ret]
    rfl
  unfold strings_Cut strings_Cut.t
  rw [this, tr_opt, Option.bind_some, tr_ret]
theorem cut_first {a b : List UInt8} {c : UInt8} (h : c ∉ a) (hl : a.length + b.length ≤ 9000) : strings_Cut (B (a ++ c :: b), B [c]) = some (B a, B b, true) := by
  have : internal_stringslite_Cut (B (a ++ c :: b), B [c]) = some (B a, B b, true) := by
    unfold internal_stringslite_Cut internal_stringslite_Cut.t
    dsimp only
    have hs : (a ++ c :: b).length = a.length + b.length + 1 := by simp; omega
    have h1 : ([c] : List UInt8).length = 1 := rfl
    have hW : W ((a.length : Int) + ((1 : Nat) : Int)) = ((a.length + 1 : Nat) : Int) := by rw [W_id (by omega) (by omega)]; omega
    rw [tr_yes (by rw [B_size]; rfl), byteH_one, indexB_B, index_first h, B_size, B_size, hs, h1, hW, tr_yes (by simp), tr_yes (by simp; omega), tr_yes (by simp; omega), tr_ret]
    rw [B_extract, B_extract, Int.toNat_natCast, Int.toNat_natCast, Int.toNat_natCast]
    have e1 : List.drop (Int.toNat 0) (List.take a.length (a ++ c :: b)) = a := by simp
    have e2 : List.drop (a.length + 1) (List.take (a.length + b.length + 1) (a ++ c :: b)) = b := by
      rw [List.take_of_length_le (by omega), show a ++ c :: b = (a ++ [c]) ++ b by simp, List.drop_left' (by simp)]
    rw [e1, e2]
  unfold strings_Cut strings_Cut.t
  rw [this, tr_opt, Option.bind_some, tr_ret]


theorem nil_B : ByteArray.mk #[] = B [] := rfl

/-- Up to a mark. -/
def tw : List UInt8 → List UInt8
  | [] => []
  | b :: l => if b = 35 then [] else b :: tw l
theorem tw_none : ∀ {l : List UInt8}, 35 ∉ l → tw l = l
  | [], _ => rfl
  | b :: l, h => by
    simp only [List.mem_cons, not_or] at h
    rw [tw, if_neg (fun e => h.1 e.symm), tw_none h.2]
theorem tw_first : ∀ {a b : List UInt8}, 35 ∉ a → tw (a ++ 35 :: b) = a
  | [], b, _ => by simp [tw]
  | x :: a, b, h => by
    simp only [List.mem_cons, not_or] at h
    rw [List.cons_append, tw, if_neg (fun e => h.1 e.symm), tw_first h.2]

/-- The words of a line. -/
def ws (l : List UInt8) : List ByteArray := (wd (tw l) []).map B

theorem Words_eq (l : List UInt8) (h : l.length ≤ 3000) : lex_Words (B l) = some (ws l) := by
  unfold lex_Words lex_Words.t ws
  have hm : ByteArray.mk #[(35 : UInt8)] = B [35] := rfl
  rw [hm]
  rcases first_of 35 l with h1 | ⟨a, b, rfl, h1⟩
  · rw [cut_none h1, tr_opt, Option.bind_some, tr_yes (by rw [decide_eq_true_eq, B_size]; omega), tr_ret, fields_wd, tw_none h1]
  · have hl : a.length + b.length + 1 ≤ 3000 := by simp at h; omega
    rw [cut_first h1 (by omega), tr_opt, Option.bind_some, tr_yes (by rw [decide_eq_true_eq, B_size]; omega), tr_ret, fields_wd, tw_first h1]

def clo (cur : List UInt8) : List ByteArray := if cur = [] then [] else [B cur]

theorem not_nil (cur : List UInt8) : (!(B cur).toList == (ByteArray.mk #[]).toList) = !(decide (cur = [])) := by
  rw [nil_B, B_toList, B_toList]
  cases cur <;> rfl

theorem room16 {n : Nat} (h : n < 100000) : decide ((n + 1) * 16 ≤ most) = true := by
  rw [decide_eq_true_eq]; exact room h (by omega)

theorem words_loop : ∀ (l pre cur : List UInt8) (out : List ByteArray) (m : Nat), pre.length + l.length ≤ 3000 → cur.length ≤ pre.length → out.length ≤ pre.length → l.length < m →
    ∃ out' cur' i', (iterT ref23_Words.t0 m (B (pre ++ l), out, B cur, (pre.length : Int), ())).run = some (.exit 0, B (pre ++ l), out', B cur', i', ()) ∧
      out' ++ clo cur' = out ++ (wd (tw l) cur).map B ∧ out'.length ≤ 3000
  | l, pre, cur, out, 0, _, _, _, hm => absurd hm (Nat.not_lt_zero _)
  | [], pre, cur, out, m + 1, hl, hc, ho, hm => by
    have e : (ref23_Words.t0 (B (pre ++ []), out, B cur, (pre.length : Int), ())).run = some (.exit 0, B (pre ++ []), out, B cur, (pre.length : Int), ()) := by
      unfold ref23_Words.t0
      dsimp only
      rw [tr_no (by rw [B_size]; simp), tr_ret, List.take_length]
    refine ⟨out, cur, _, by rw [iter_step e], ?_, by simp at hl; omega⟩
    unfold clo
    simp only [tw, wd]
    split <;> rfl
  | b :: l, pre, cur, out, m + 1, hl, hc, ho, hm => by
    have hl' : pre.length + l.length + 1 ≤ 3000 := by simp at hl; omega
    have hlt : (decide ((pre.length : Int) < (ByteArray.size (B (pre ++ b :: l)) : Int))) = true := by rw [B_size, decide_eq_true_eq, List.length_append, List.length_cons]; omega
    have hW : W ((pre.length : Int) + 1) = ((pre.length + 1 : Nat) : Int) := by rw [W_id (by omega) (by omega)]; omega
    have hpl : pre ++ b :: l = (pre ++ [b]) ++ l := by simp
    have hpn : (pre ++ [b]).length = pre.length + 1 := by simp
    have go : ∀ (cur2 : List UInt8) (out2 : List ByteArray), (ref23_Words.t0 (B (pre ++ b :: l), out, B cur, (pre.length : Int), ())).run = some (.normal, B (pre ++ b :: l), out2, B cur2, ((pre.length + 1 : Nat) : Int), ()) →
        cur2.length ≤ pre.length + 1 → out2.length ≤ pre.length + 1 → out2 ++ (wd (tw l) cur2).map B = out ++ (wd (tw (b :: l)) cur).map B →
        ∃ out' cur' i', (iterT ref23_Words.t0 (m + 1) (B (pre ++ b :: l), out, B cur, (pre.length : Int), ())).run = some (.exit 0, B (pre ++ b :: l), out', B cur', i', ()) ∧ out' ++ clo cur' = out ++ (wd (tw (b :: l)) cur).map B ∧ out'.length ≤ 3000 := by
      intro cur2 out2 e h1 h2 h3
      obtain ⟨o, c, i, e1, e2, e3⟩ := words_loop l (pre ++ [b]) cur2 out2 m (by rw [hpn]; omega) (by rw [hpn]; omega) (by rw [hpn]; omega) (by simp at hm; omega)
      refine ⟨o, c, i, ?_, by rw [e2, h3], e3⟩
      rw [iter_step e]
      rw [hpn, ← hpl] at e1
      exact e1
    by_cases h35 : b = 35
    · have e : (ref23_Words.t0 (B (pre ++ b :: l), out, B cur, (pre.length : Int), ())).run = some (.exit 0, B (pre ++ b :: l), out, B cur, (pre.length : Int), ()) := by
        unfold ref23_Words.t0
        dsimp only
        rw [tr_yes hlt, sget_mid, tr_opt, Option.bind_some, tr_no (by rw [h35]; rfl), tr_ret, List.take_length]
      refine ⟨out, cur, _, by rw [iter_step e], ?_, by omega⟩
      unfold clo
      simp only [tw, if_pos h35, wd]
      split <;> rfl
    · have n35 : ((b.toNat : Int) != 35) = true := by
        rw [bne_iff_ne]
        intro e
        exact h35 (UInt8.toNat_inj.1 (by show b.toNat = 35; omega))
      have htw : tw (b :: l) = b :: tw l := by rw [tw, if_neg h35]
      by_cases hb : isB b = true
      · have hwd : wd (tw (b :: l)) cur = if cur = [] then wd (tw l) [] else cur :: wd (tw l) [] := by rw [htw, wd, if_pos hb]
        have hbl : ∀ (x y : T (Ex × ByteArray × List ByteArray × ByteArray × Int × Unit)), x.run = y.run → (T.ite ((b.toNat : Int) != 32) (T.opt (some (b.toNat : Int)) fun y' => T.ite (y' != (9 : Int)) T.fail x) y).run = y.run ∨ True := fun _ _ _ => .inr trivial
        by_cases hcur : cur = []
        · refine go [] out ?_ (by simp) (by omega) (by rw [hwd, if_pos hcur])
          unfold ref23_Words.t0
          dsimp only
          rw [tr_yes hlt, sget_mid, tr_opt, Option.bind_some, tr_yes n35, tr_opt, Option.bind_some, not_nil, tr_ite]
          have hd : (!(decide (cur = []))) = false := by rw [hcur]; rfl
          rw [hd]
          split
          · rename_i h32
            have h9 : ((b.toNat : Int) != 9) = false := by
              unfold isB at hb
              rw [bne_eq_false_iff_eq]
              rw [bne_iff_ne] at h32
              rcases Bool.or_eq_true _ _ ▸ hb with h | h
              · rw [beq_iff_eq] at h; subst h; exact absurd rfl h32
              · rw [beq_iff_eq] at h; subst h; rfl
            rw [tr_opt, Option.bind_some, tr_no h9, tr_no rfl, tr_ret, List.take_length, hW]
            rfl
          · rw [tr_no rfl, tr_ret, List.take_length, hW]
            rfl
        · refine go [] (out ++ [B cur]) ?_ (by simp) (by simp; omega) (by rw [hwd, if_neg hcur]; simp)
          unfold ref23_Words.t0
          dsimp only
          rw [tr_yes hlt, sget_mid, tr_opt, Option.bind_some, tr_yes n35, tr_opt, Option.bind_some, not_nil, tr_ite]
          have hd : (!(decide (cur = []))) = true := by simp [hcur]
          rw [hd]
          split
          · rename_i h32
            have h9 : ((b.toNat : Int) != 9) = false := by
              unfold isB at hb
              rw [bne_eq_false_iff_eq]
              rw [bne_iff_ne] at h32
              rcases Bool.or_eq_true _ _ ▸ hb with h | h
              · rw [beq_iff_eq] at h; subst h; exact absurd rfl h32
              · rw [beq_iff_eq] at h; subst h; rfl
            rw [tr_opt, Option.bind_some, tr_no h9, tr_yes rfl, tr_yes (room16 (by omega)), tr_ret, take_all, hW]
            rfl
          · rw [tr_yes rfl, tr_yes (room16 (by omega)), tr_ret, take_all, hW]
            rfl
      · have hwd : wd (tw (b :: l)) cur = wd (tw l) (cur ++ [b]) := by rw [htw, wd, if_neg hb]
        refine go (cur ++ [b]) out ?_ (by simp; omega) (by omega) (by rw [hwd])
        have h32 : ((b.toNat : Int) != 32) = true := by
          rw [bne_iff_ne]; intro e
          refine hb ?_
          have : b = 32 := UInt8.toNat_inj.1 (by show b.toNat = 32; omega)
          subst this; rfl
        have h9 : ((b.toNat : Int) != 9) = true := by
          rw [bne_iff_ne]; intro e
          refine hb ?_
          have : b = 9 := UInt8.toNat_inj.1 (by show b.toNat = 9; omega)
          subst this; rfl
        have hx : ByteArray.extract (B (pre ++ b :: l)) (Int.toNat (pre.length : Int)) (((pre.length + 1 : Nat) : Int)).toNat = B [b] := by
          rw [B_extract, Int.toNat_natCast, Int.toNat_natCast, hpl, List.take_append_of_le_length (by rw [hpn]; omega), List.take_of_length_le (by rw [hpn]; omega)]
          simp
        have hsz : decide ((((B cur).size + (B [b]).size : Nat) : Int) > IntKind.i64.max) = false := by
          have e : IntKind.i64.max = 9223372036854775807 := rfl
          rw [e, B_size, B_size, List.length_singleton]
          exact decide_eq_false (by omega)
        unfold ref23_Words.t0
        dsimp only
        rw [tr_yes hlt, sget_mid, tr_opt, Option.bind_some, tr_yes n35, tr_opt, Option.bind_some, tr_yes h32, tr_opt, Option.bind_some, tr_yes h9, hW, tr_yes (by rw [B_size, List.length_append, List.length_cons]; simp only [Bool.and_eq_true, decide_eq_true_eq]; omega), hx, tr_no hsz, tr_ret, List.take_length, B_app]

theorem refWords_eq (l : List UInt8) (h : l.length ≤ 3000) : ref23_Words (B l) = some (ws l) := by
  obtain ⟨o, c, i, e1, e2, e3⟩ := words_loop l [] [] [] rounds (by simpa using h) (by simp) (by simp) (rounds_gt (by omega))
  rw [List.nil_append] at e1
  rw [List.nil_append] at e2
  unfold ref23_Words ref23_Words.t ref23_Words.l0
  have e1' : (iterT ref23_Words.t0 rounds (B l, [], ByteArray.mk #[], (0 : Int), ())).run = _ := e1
  rw [e1', tr_opt, Option.bind_some]
  dsimp only
  rw [tr_yes (by decide), not_nil]
  unfold ws
  rw [← e2]
  unfold clo
  by_cases hc : c = []
  · rw [tr_no (by simp [hc]), tr_ret, List.take_length, if_pos hc, List.append_nil]
  · rw [tr_yes (by simp [hc]), tr_yes (room16 (by omega)), tr_ret, take_all, if_neg hc]
end Go.Proofs.Pen

namespace Go.Proofs.Pen
open Go Go.Proofs
noncomputable def strings_Index.t (x : ByteArray × ByteArray) : T (Int) := T.ite (decide (ByteArray.size x.2 = (1 : Nat))) (T.ret (indexB x.1 (byteH x.2))) T.fail
noncomputable def strings_Index (x : ByteArray × ByteArray) : Option (Int) := (strings_Index.t x).run
noncomputable def strings_Index.q : List AV → T AV := entry [.str, .str] (outR [TI]) fun x => .opt (strings_Index x) .ret
theorem strings_Index.ok : FnOK Tryd.prog 54 strings_Index.q :=
  entry_call (ps := [.str, .str]) (rs := [TI]) (F := ({ quiet := Xs, deep := noDeep } : Fns)) (D := D0) (S := tabS []) (t := strings_Index.t) mixed Xok (deep_none _) Tryd.func54 (by kernel_rfl) (sok_fn trivial) (by kernel_rfl) (fun x => by kernel_rfl)
end Go.Proofs.Pen

namespace Go.Proofs.Pen
open Go Go.Proofs
def strings_genSplit.L0 : List (Nat × Lay) := [(0, .val .str), (1, .val .str), (2, .val TI), (3, .val TI), (9, .row .str), (10, .val TI)]
noncomputable def strings_genSplit.t0 (x : ByteArray × ByteArray × Int × Int × List ByteArray × Int × Unit) : T (Ex × ByteArray × ByteArray × Int × Int × List ByteArray × Int × Unit) := T.ite (decide (x.2.2.2.2.2.1 < x.2.2.2.1)) (T.opt (strings_Index (x.1, x.2.1)) fun y => T.ite (decide (y < (0 : Int))) (T.ret (Ex.exit (0 : Nat), x.1, x.2.1, x.2.2.1, x.2.2.2.1, List.take x.2.2.2.2.1.length x.2.2.2.2.1, x.2.2.2.2.2.1, ())) (T.ite (decide ((0 : Int) ≤ (0 : Int)) && decide ((0 : Int) ≤ W (y + x.2.2.1)) && decide (W (y + x.2.2.1) ≤ (↑(ByteArray.size x.1) : Int))) (T.ite (decide ((0 : Int) ≤ x.2.2.2.2.2.1) && decide (x.2.2.2.2.2.1 < (↑x.2.2.2.2.1.length : Int))) (T.opt x.2.2.2.2.1[(0 : Nat) + Int.toNat x.2.2.2.2.2.1]? fun y_1 => T.ite (decide ((0 : Int) ≤ W (y + (↑(ByteArray.size x.2.1) : Int))) && decide (W (y + (↑(ByteArray.size x.2.1) : Int)) ≤ (↑(ByteArray.size x.1) : Int)) && decide ((↑(ByteArray.size x.1) : Int) ≤ (↑(ByteArray.size x.1) : Int))) (T.ret (Ex.normal, ByteArray.extract x.1 (W (y + (↑(ByteArray.size x.2.1) : Int))).toNat (↑(ByteArray.size x.1) : Int).toNat, x.2.1, x.2.2.1, x.2.2.2.1, List.take x.2.2.2.2.1.length (x.2.2.2.2.1.set ((0 : Nat) + Int.toNat x.2.2.2.2.2.1) (ByteArray.extract x.1 (Int.toNat (0 : Int)) (W (y + x.2.2.1)).toNat)), W (x.2.2.2.2.2.1 + (1 : Int)), ())) T.fail) T.fail) T.fail)) (T.ret (Ex.exit (0 : Nat), x.1, x.2.1, x.2.2.1, x.2.2.2.1, List.take x.2.2.2.2.1.length x.2.2.2.2.1, x.2.2.2.2.2.1, ()))
noncomputable def strings_genSplit.l0 (x : ByteArray × ByteArray × Int × Int × List ByteArray × Int × Unit) : Option (Ex × ByteArray × ByteArray × Int × Int × List ByteArray × Int × Unit) := (iterT strings_genSplit.t0 rounds x).run
theorem strings_genSplit.k0 : bodies 0 (lp Tryd.f42 []) = [.loop (loopIn 0 (lp Tryd.f42 []))] ∧ WP Tryd.prog 0 (.block 0 (.loop (loopIn 0 (lp Tryd.f42 [])))) (loopS strings_genSplit.L0 66 0 [.exit 0] strings_genSplit.l0) :=
  loop_tree (L := strings_genSplit.L0) (F := ({ quiet := (ext Xs 54 strings_Index.q), deep := noDeep } : Fns)) (D := D0) (tab := []) (t := strings_genSplit.t0) mixed (quiet_ext Xok strings_Index.ok) (deep_none _) (fun _ => rfl) (by kernel_rfl) (by kernel_rfl) trivial (fun x => by kernel_rfl)
noncomputable def strings_genSplit.t (x : ByteArray × ByteArray × Int × Int) : T ((List (ByteArray))) := T.ite (x.2.2.2 == (0 : Int)) (T.ret []) (T.ite (ByteArray.toList x.2.1 == (ByteArray.mk #[]).toList) T.fail (T.ite (decide (x.2.2.2 < (0 : Int))) (T.ite (decide (ByteArray.size x.2.1 = (1 : Nat))) (T.ite (decide ((0 : Int) ≤ if W ((↑(ByteArray.size x.1) : Int) + (1 : Int)) < W (countB x.1 (byteH x.2.1) + (1 : Int)) then W ((↑(ByteArray.size x.1) : Int) + (1 : Int)) else W (countB x.1 (byteH x.2.1) + (1 : Int))) && decide ((if W ((↑(ByteArray.size x.1) : Int) + (1 : Int)) < W (countB x.1 (byteH x.2.1) + (1 : Int)) then W ((↑(ByteArray.size x.1) : Int) + (1 : Int)) else W (countB x.1 (byteH x.2.1) + (1 : Int))) ≤ if W ((↑(ByteArray.size x.1) : Int) + (1 : Int)) < W (countB x.1 (byteH x.2.1) + (1 : Int)) then W ((↑(ByteArray.size x.1) : Int) + (1 : Int)) else W (countB x.1 (byteH x.2.1) + (1 : Int))) && decide ((if W ((↑(ByteArray.size x.1) : Int) + (1 : Int)) < W (countB x.1 (byteH x.2.1) + (1 : Int)) then W ((↑(ByteArray.size x.1) : Int) + (1 : Int)) else W (countB x.1 (byteH x.2.1) + (1 : Int))) * (↑(nat_lit 16) : Int) ≤ (↑most : Int)) && decide ((if W ((↑(ByteArray.size x.1) : Int) + (1 : Int)) < W (countB x.1 (byteH x.2.1) + (1 : Int)) then W ((↑(ByteArray.size x.1) : Int) + (1 : Int)) else W (countB x.1 (byteH x.2.1) + (1 : Int))) ≤ (↑most : Int))) (T.opt (strings_genSplit.l0 (x.1, x.2.1, x.2.2.1, W ((if W ((↑(ByteArray.size x.1) : Int) + (1 : Int)) < W (countB x.1 (byteH x.2.1) + (1 : Int)) then W ((↑(ByteArray.size x.1) : Int) + (1 : Int)) else W (countB x.1 (byteH x.2.1) + (1 : Int))) - (1 : Int)), List.take (if W ((↑(ByteArray.size x.1) : Int) + (1 : Int)) < W (countB x.1 (byteH x.2.1) + (1 : Int)) then W ((↑(ByteArray.size x.1) : Int) + (1 : Int)) else W (countB x.1 (byteH x.2.1) + (1 : Int))).toNat (List.replicate (if W ((↑(ByteArray.size x.1) : Int) + (1 : Int)) < W (countB x.1 (byteH x.2.1) + (1 : Int)) then W ((↑(ByteArray.size x.1) : Int) + (1 : Int)) else W (countB x.1 (byteH x.2.1) + (1 : Int))).toNat (ByteArray.mk #[])), (0 : Int), ())) fun y => T.ite (exEq y.1 (Ex.exit (0 : Nat))) (T.ite (decide ((0 : Int) ≤ y.2.2.2.2.2.2.1) && decide (y.2.2.2.2.2.2.1 < (↑y.2.2.2.2.2.1.length : Int))) (T.opt y.2.2.2.2.2.1[(0 : Nat) + Int.toNat y.2.2.2.2.2.2.1]? fun y_1 => T.ite (decide ((0 : Int) ≤ (0 : Int)) && decide ((0 : Int) ≤ W (y.2.2.2.2.2.2.1 + (1 : Int))) && decide (W (y.2.2.2.2.2.2.1 + (1 : Int)) ≤ (↑y.2.2.2.2.2.1.length : Int))) (T.ret (List.take ((W (y.2.2.2.2.2.2.1 + (1 : Int))).toNat - Int.toNat (0 : Int)) (List.drop ((0 : Nat) + Int.toNat (0 : Int)) (y.2.2.2.2.2.1.set ((0 : Nat) + Int.toNat y.2.2.2.2.2.2.1) y.2.1)))) T.fail) T.fail) T.fail) T.fail) T.fail) (T.ite (decide ((0 : Int) ≤ if W ((↑(ByteArray.size x.1) : Int) + (1 : Int)) < x.2.2.2 then W ((↑(ByteArray.size x.1) : Int) + (1 : Int)) else x.2.2.2) && decide ((if W ((↑(ByteArray.size x.1) : Int) + (1 : Int)) < x.2.2.2 then W ((↑(ByteArray.size x.1) : Int) + (1 : Int)) else x.2.2.2) ≤ if W ((↑(ByteArray.size x.1) : Int) + (1 : Int)) < x.2.2.2 then W ((↑(ByteArray.size x.1) : Int) + (1 : Int)) else x.2.2.2) && decide ((if W ((↑(ByteArray.size x.1) : Int) + (1 : Int)) < x.2.2.2 then W ((↑(ByteArray.size x.1) : Int) + (1 : Int)) else x.2.2.2) * (↑(nat_lit 16) : Int) ≤ (↑most : Int)) && decide ((if W ((↑(ByteArray.size x.1) : Int) + (1 : Int)) < x.2.2.2 then W ((↑(ByteArray.size x.1) : Int) + (1 : Int)) else x.2.2.2) ≤ (↑most : Int))) (T.opt (strings_genSplit.l0 (x.1, x.2.1, x.2.2.1, W ((if W ((↑(ByteArray.size x.1) : Int) + (1 : Int)) < x.2.2.2 then W ((↑(ByteArray.size x.1) : Int) + (1 : Int)) else x.2.2.2) - (1 : Int)), List.take (if W ((↑(ByteArray.size x.1) : Int) + (1 : Int)) < x.2.2.2 then W ((↑(ByteArray.size x.1) : Int) + (1 : Int)) else x.2.2.2).toNat (List.replicate (if W ((↑(ByteArray.size x.1) : Int) + (1 : Int)) < x.2.2.2 then W ((↑(ByteArray.size x.1) : Int) + (1 : Int)) else x.2.2.2).toNat (ByteArray.mk #[])), (0 : Int), ())) fun y => T.ite (exEq y.1 (Ex.exit (0 : Nat))) (T.ite (decide ((0 : Int) ≤ y.2.2.2.2.2.2.1) && decide (y.2.2.2.2.2.2.1 < (↑y.2.2.2.2.2.1.length : Int))) (T.opt y.2.2.2.2.2.1[(0 : Nat) + Int.toNat y.2.2.2.2.2.2.1]? fun y_1 => T.ite (decide ((0 : Int) ≤ (0 : Int)) && decide ((0 : Int) ≤ W (y.2.2.2.2.2.2.1 + (1 : Int))) && decide (W (y.2.2.2.2.2.2.1 + (1 : Int)) ≤ (↑y.2.2.2.2.2.1.length : Int))) (T.ret (List.take ((W (y.2.2.2.2.2.2.1 + (1 : Int))).toNat - Int.toNat (0 : Int)) (List.drop ((0 : Nat) + Int.toNat (0 : Int)) (y.2.2.2.2.2.1.set ((0 : Nat) + Int.toNat y.2.2.2.2.2.2.1) y.2.1)))) T.fail) T.fail) T.fail) T.fail)))
noncomputable def strings_genSplit (x : ByteArray × ByteArray × Int × Int) : Option ((List (ByteArray))) := (strings_genSplit.t x).run
noncomputable def strings_genSplit.q : List AV → T AV := entry [.str, .str, TI, TI] (outR [(.sl .str)]) fun x => .opt (strings_genSplit x) .ret
theorem strings_genSplit.ok : FnOK Tryd.prog 42 strings_genSplit.q :=
  entry_call (ps := [.str, .str, TI, TI]) (rs := [(.sl .str)]) (F := ({ quiet := (ext Xs 54 strings_Index.q), deep := noDeep } : Fns)) (D := D0) (S := tabS [(0, loopS strings_genSplit.L0 66 0 [.exit 0] strings_genSplit.l0)]) (t := strings_genSplit.t) mixed (quiet_ext Xok strings_Index.ok) (deep_none _) Tryd.func42 (by kernel_rfl) (sok_fn ⟨strings_genSplit.k0, trivial⟩) (by kernel_rfl) (fun x => by kernel_rfl)
end Go.Proofs.Pen

namespace Go.Proofs.Pen
open Go Go.Proofs
noncomputable def strings_Split.t (x : ByteArray × ByteArray) : T ((List (ByteArray))) := T.opt (strings_genSplit (x.1, x.2, (0 : Int), (-1 : Int))) fun y => T.ret y
noncomputable def strings_Split (x : ByteArray × ByteArray) : Option ((List (ByteArray))) := (strings_Split.t x).run
noncomputable def strings_Split.q : List AV → T AV := entry [.str, .str] (outR [(.sl .str)]) fun x => .opt (strings_Split x) .ret
theorem strings_Split.ok : FnOK Tryd.prog 27 strings_Split.q :=
  entry_call (ps := [.str, .str]) (rs := [(.sl .str)]) (F := ({ quiet := (ext Xs 42 strings_genSplit.q), deep := noDeep } : Fns)) (D := D0) (S := tabS []) (t := strings_Split.t) mixed (quiet_ext Xok strings_genSplit.ok) (deep_none _) Tryd.func27 (by kernel_rfl) (sok_fn trivial) (by kernel_rfl) (fun x => by kernel_rfl)
end Go.Proofs.Pen

namespace Go.Proofs.Pen
open Go Go.Proofs
def ref23_Split.L0 : List (Nat × Lay) := [(0, .val .str), (3, .row .str), (4, .val TI), (5, .val TI)]
noncomputable def ref23_Split.t0 (x : ByteArray × List ByteArray × Int × Int × Unit) : T (Ex × ByteArray × List ByteArray × Int × Int × Unit) := T.ite (decide (x.2.2.2.1 < (↑(ByteArray.size x.1) : Int))) (T.opt (sget x.1 x.2.2.2.1) fun y => T.ite (y == (10 : Int)) (T.ite (decide ((0 : Int) ≤ x.2.2.1) && decide (x.2.2.1 ≤ x.2.2.2.1) && decide (x.2.2.2.1 ≤ (↑(ByteArray.size x.1) : Int))) (T.ite (decide ((x.2.1.length + (1 : Nat)) * nat_lit 16 ≤ most)) (T.ret (Ex.normal, x.1, List.take (x.2.1.length + (1 : Nat)) (List.take x.2.1.length x.2.1 ++ [ByteArray.extract x.1 (Int.toNat x.2.2.1) (Int.toNat x.2.2.2.1)]), W (x.2.2.2.1 + (1 : Int)), W (x.2.2.2.1 + (1 : Int)), ())) T.fail) T.fail) (T.ret (Ex.normal, x.1, List.take x.2.1.length x.2.1, x.2.2.1, W (x.2.2.2.1 + (1 : Int)), ()))) (T.ret (Ex.exit (0 : Nat), x.1, List.take x.2.1.length x.2.1, x.2.2.1, x.2.2.2.1, ()))
noncomputable def ref23_Split.l0 (x : ByteArray × List ByteArray × Int × Int × Unit) : Option (Ex × ByteArray × List ByteArray × Int × Int × Unit) := (iterT ref23_Split.t0 rounds x).run
theorem ref23_Split.k0 : bodies 0 (lp Tryd.f16 []) = [.loop (loopIn 0 (lp Tryd.f16 []))] ∧ WP Tryd.prog 0 (.block 0 (.loop (loopIn 0 (lp Tryd.f16 [])))) (loopS ref23_Split.L0 31 0 [.exit 0] ref23_Split.l0) :=
  loop_tree (L := ref23_Split.L0) (F := ({ quiet := Xs, deep := noDeep } : Fns)) (D := D0) (tab := []) (t := ref23_Split.t0) mixed Xok (deep_none _) (fun _ => rfl) (by kernel_rfl) (by kernel_rfl) trivial (fun x => by kernel_rfl)
noncomputable def ref23_Split.t (x : ByteArray) : T ((List (ByteArray))) := T.opt (ref23_Split.l0 (x, [], (0 : Int), (0 : Int), ())) fun y => T.ite (exEq y.1 (Ex.exit (0 : Nat))) (T.ite (decide ((0 : Int) ≤ y.2.2.2.1) && decide (y.2.2.2.1 ≤ (↑(ByteArray.size y.2.1) : Int)) && decide ((↑(ByteArray.size y.2.1) : Int) ≤ (↑(ByteArray.size y.2.1) : Int))) (T.ite (decide ((y.2.2.1.length + (1 : Nat)) * nat_lit 16 ≤ most)) (T.ret (List.take (y.2.2.1.length + (1 : Nat)) (List.take y.2.2.1.length y.2.2.1 ++ [ByteArray.extract y.2.1 (Int.toNat y.2.2.2.1) (↑(ByteArray.size y.2.1) : Int).toNat]))) T.fail) T.fail) T.fail
noncomputable def ref23_Split (x : ByteArray) : Option ((List (ByteArray))) := (ref23_Split.t x).run
noncomputable def ref23_Split.q : List AV → T AV := entry [.str] (outR [(.sl .str)]) fun x => .opt (ref23_Split x) .ret
theorem ref23_Split.ok : FnOK Tryd.prog 16 ref23_Split.q :=
  entry_call (ps := [.str]) (rs := [(.sl .str)]) (F := ({ quiet := Xs, deep := noDeep } : Fns)) (D := D0) (S := tabS [(0, loopS ref23_Split.L0 31 0 [.exit 0] ref23_Split.l0)]) (t := ref23_Split.t) mixed Xok (deep_none _) Tryd.func16 (by kernel_rfl) (sok_fn ⟨ref23_Split.k0, trivial⟩) (by kernel_rfl) (fun x => by kernel_rfl)
end Go.Proofs.Pen

namespace Go.Proofs.Pen
open Go Go.Proofs

/-- The lines of a text. -/
def sp : List UInt8 → List UInt8 → List (List UInt8)
  | [], cur => [cur]
  | b :: l, cur => if b = 10 then cur :: sp l [] else sp l (cur ++ [b])
theorem sp_none : ∀ {l cur : List UInt8}, 10 ∉ l → sp l cur = [cur ++ l]
  | [], cur, _ => by simp [sp]
  | b :: l, cur, h => by
    simp only [List.mem_cons, not_or] at h
    rw [sp, if_neg (fun e => h.1 e.symm), sp_none h.2]
    simp
theorem sp_first : ∀ {a b cur : List UInt8}, 10 ∉ a → sp (a ++ 10 :: b) cur = (cur ++ a) :: sp b []
  | [], b, cur, _ => by simp [sp]
  | x :: a, b, cur, h => by
    simp only [List.mem_cons, not_or] at h
    rw [List.cons_append, sp, if_neg (fun e => h.1 e.symm), sp_first h.2]
    simp

theorem index_eq (l : List UInt8) (c : UInt8) : strings_Index (B l, B [c]) = some (Lib.indexByte l c) := by
  unfold strings_Index strings_Index.t
  dsimp only
  rw [tr_yes (by rw [B_size]; rfl), tr_ret, byteH_one, indexB_B]

theorem gen_loop : ∀ (c : Nat) (l : List UInt8) (done : List ByteArray) (m : Nat), l.count 10 = c → l.length ≤ 3000 → done.length + c ≤ 3000 → c < m →
    ∃ ds last, (iterT strings_genSplit.t0 m (B l, B [10], (0 : Int), ((done.length + c : Nat) : Int), done ++ List.replicate (c + 1) (B []), (done.length : Int), ())).run =
      some (.exit 0, B last, B [10], (0 : Int), ((done.length + c : Nat) : Int), done ++ ds.map B ++ [B []], ((done.length + c : Nat) : Int), ()) ∧ ds.length = c ∧ sp l [] = ds ++ [last]
  | c, l, done, 0, _, _, _, hm => absurd hm (Nat.not_lt_zero _)
  | 0, l, done, m + 1, hc, hl, hd, hm => by
    have hn : (10 : UInt8) ∉ l := List.count_eq_zero.1 hc
    have e : (strings_genSplit.t0 (B l, B [10], (0 : Int), ((done.length + 0 : Nat) : Int), done ++ List.replicate (0 + 1) (B []), (done.length : Int), ())).run = some (.exit 0, B l, B [10], (0 : Int), ((done.length + 0 : Nat) : Int), done ++ List.replicate (0 + 1) (B []), (done.length : Int), ()) := by
      unfold strings_genSplit.t0
      dsimp only
      rw [tr_no (by rw [decide_eq_false_iff_not]; omega), tr_ret, List.take_length]
    refine ⟨[], l, ?_, rfl, by rw [sp_none hn]; rfl⟩
    rw [iter_step e]
    simp
  | c + 1, l, done, m + 1, hc, hl, hd, hm => by
    rcases first_of 10 l with h | ⟨a, b, rfl, h⟩
    · rw [List.count_eq_zero.2 h] at hc; omega
    · have hlen : a.length + b.length + 1 ≤ 3000 := by simp at hl; omega
      have hcb : b.count 10 = c := by
        rw [List.count_append, List.count_eq_zero.2 h, List.count_cons_self] at hc; omega
      have hrow : (done ++ List.replicate (c + 1 + 1) (B [])).length = done.length + c + 2 := by simp; omega
      have hget : (done ++ List.replicate (c + 1 + 1) (B []))[done.length]? = some (B []) := by
        rw [List.getElem?_append_right (Nat.le_refl _), Nat.sub_self, List.replicate_succ]; rfl
      have hset : (done ++ List.replicate (c + 1 + 1) (B [])).set done.length (B a) = (done ++ [B a]) ++ List.replicate (c + 1) (B []) := by
        rw [List.set_append_right _ _ (Nat.le_refl _), Nat.sub_self, List.replicate_succ, List.set_cons_zero]; simp
      have hs1 : (B (a ++ 10 :: b)).size = a.length + b.length + 1 := by rw [B_size]; simp; omega
      have hW0 : W ((a.length : Int) + 0) = (a.length : Int) := by rw [W_id (by omega) (by omega)]; omega
      have hW1 : W ((a.length : Int) + ((B [10]).size : Int)) = ((a.length + 1 : Nat) : Int) := by rw [B_size, List.length_singleton, W_id (by omega) (by omega)]; omega
      have hW2 : W ((done.length : Int) + 1) = (((done ++ [B a]).length : Nat) : Int) := by rw [W_id (by omega) (by omega)]; simp
      have hx1 : ByteArray.extract (B (a ++ 10 :: b)) (((a.length + 1 : Nat) : Int)).toNat ((a.length + b.length + 1 : Nat) : Int).toNat = B b := by
        rw [B_extract, Int.toNat_natCast, Int.toNat_natCast, List.take_of_length_le (by simp; omega), show a ++ 10 :: b = (a ++ [10]) ++ b by simp, List.drop_left' (by simp)]
      have hx2 : ByteArray.extract (B (a ++ 10 :: b)) (Int.toNat 0) ((a.length : Int)).toNat = B a := by
        rw [B_extract, Int.toNat_natCast]; simp
      have e : (strings_genSplit.t0 (B (a ++ 10 :: b), B [10], (0 : Int), ((done.length + (c + 1) : Nat) : Int), done ++ List.replicate (c + 1 + 1) (B []), (done.length : Int), ())).run =
          some (.normal, B b, B [10], (0 : Int), (((done ++ [B a]).length + c : Nat) : Int), (done ++ [B a]) ++ List.replicate (c + 1) (B []), (((done ++ [B a]).length : Nat) : Int), ()) := by
        unfold strings_genSplit.t0
        dsimp only
        rw [tr_yes (by rw [decide_eq_true_eq]; omega), index_eq, index_first h, tr_opt, Option.bind_some, tr_no (by rw [decide_eq_false_iff_not]; omega), hW0, hW1, hs1,
          tr_yes (by simp only [Bool.and_eq_true, decide_eq_true_eq]; omega), hrow, tr_yes (by simp only [Bool.and_eq_true, decide_eq_true_eq]; omega), Int.toNat_natCast, Nat.zero_add, hget, tr_opt, Option.bind_some,
          tr_yes (by simp only [Bool.and_eq_true, decide_eq_true_eq]; omega), tr_ret, hx1, hW2, hx2, hset]
        have e1 : done.length + (c + 1) = (done ++ [B a]).length + c := by simp; omega
        rw [List.take_of_length_le (by simp; omega), e1]
      obtain ⟨ds, last, h1, h2, h3⟩ := gen_loop c b (done ++ [B a]) m hcb (by omega) (by simp; omega) (by omega)
      refine ⟨a :: ds, last, ?_, by simp [h2], by rw [sp_first h, h3]; rfl⟩
      rw [iter_step e]
      show (iterT strings_genSplit.t0 m _).run = _
      rw [h1]
      have e1 : done.length + (c + 1) = (done ++ [B a]).length + c := by simp; omega
      rw [e1]
      simp

theorem gen_eq (l : List UInt8) (h : l.length ≤ 3000) : strings_Split (B l, B [10]) = some ((sp l []).map B) := by
  have hk : l.count 10 ≤ l.length := List.count_le_length
  obtain ⟨ds, last, e1, e2, e3⟩ := gen_loop (l.count 10) l [] rounds rfl h (by simp; omega) (rounds_gt (by omega))
  have hn : (if W ((↑(ByteArray.size (B l)) : Int) + (1 : Int)) < W (countB (B l) (byteH (B [10])) + (1 : Int)) then W ((↑(ByteArray.size (B l)) : Int) + (1 : Int)) else W (countB (B l) (byteH (B [10])) + (1 : Int))) = ((l.count 10 + 1 : Nat) : Int) := by
    have hcb : countB (B l) (byteH (B [10])) = ((l.count 10 : Nat) : Int) := by
      unfold countB Lib.countByte
      rw [B_data]; rfl
    rw [hcb, B_size, W_id (by omega) (by omega), W_id (by omega) (by omega)]
    split <;> omega
  have hg : strings_genSplit (B l, B [10], 0, -1) = some ((sp l []).map B) := by
    unfold strings_genSplit strings_genSplit.t
    dsimp only
    rw [tr_no (b := ((-1 : Int) == 0)) rfl, tr_no (by rw [nil_B, B_toList, B_toList]; rfl), tr_yes (b := decide ((-1 : Int) < 0)) rfl, tr_yes (by rw [B_size]; rfl), hn]
    have hmost : (decide ((0 : Int) ≤ ((l.count 10 + 1 : Nat) : Int)) && decide (((l.count 10 + 1 : Nat) : Int) ≤ ((l.count 10 + 1 : Nat) : Int)) && decide (((l.count 10 + 1 : Nat) : Int) * (↑(nat_lit 16) : Int) ≤ (↑most : Int)) && decide (((l.count 10 + 1 : Nat) : Int) ≤ (↑most : Int))) = true := by
      have e : (3001 : Int) * 16 ≤ (most : Int) := by unfold most; omega
      simp only [Bool.and_eq_true, decide_eq_true_eq]
      have e16 : ((nat_lit 16 : Nat) : Int) = 16 := rfl
      rw [e16]
      omega
    have hW : W (((l.count 10 + 1 : Nat) : Int) - 1) = ((([] : List ByteArray).length + l.count 10 : Nat) : Int) := by rw [W_id (by omega) (by omega)]; simp
    have hrep : List.take (((l.count 10 + 1 : Nat) : Int)).toNat (List.replicate (((l.count 10 + 1 : Nat) : Int)).toNat (ByteArray.mk #[])) = [] ++ List.replicate (l.count 10 + 1) (B []) := by
      rw [Int.toNat_natCast, List.take_of_length_le (by simp), List.nil_append]; rfl
    rw [tr_yes hmost, hW, hrep, tr_opt]
    unfold strings_genSplit.l0
    have e1' : (iterT strings_genSplit.t0 rounds (B l, B [10], (0 : Int), ((([] : List ByteArray).length + l.count 10 : Nat) : Int), [] ++ List.replicate (l.count 10 + 1) (B []), (0 : Int), ())).run = _ := e1
    rw [e1', Option.bind_some]
    dsimp only
    have hrow : ([] ++ ds.map B ++ [B []] : List ByteArray).length = l.count 10 + 1 := by simp [e2]
    have hi : ([] : List ByteArray).length + l.count 10 = l.count 10 := by simp
    have hW2 : W (((l.count 10 : Nat) : Int) + 1) = ((l.count 10 + 1 : Nat) : Int) := by rw [W_id (by omega) (by omega)]; omega
    have hget : ([] ++ ds.map B ++ [B []] : List ByteArray)[l.count 10]? = some (B []) := by
      rw [List.nil_append, List.getElem?_append_right (by simp [e2]), List.length_map, e2, Nat.sub_self]; rfl
    have hset : ([] ++ ds.map B ++ [B []] : List ByteArray).set (l.count 10) (B last) = (sp l []).map B := by
      rw [List.nil_append, List.set_append_right _ _ (by simp [e2]), List.length_map, e2, Nat.sub_self, e3]
      simp
    rw [tr_yes (by decide), hrow, hi, tr_yes (by simp only [Bool.and_eq_true, decide_eq_true_eq]; omega), Int.toNat_natCast, Nat.zero_add, hget, tr_opt, Option.bind_some, hW2,
      tr_yes (by simp only [Bool.and_eq_true, decide_eq_true_eq]; omega), tr_ret, hset]
    have hlen : ((sp l []).map B).length = l.count 10 + 1 := by rw [e3]; simp [e2]
    have e0 : Int.toNat 0 = 0 := rfl
    rw [Int.toNat_natCast, e0, List.drop_zero, List.take_of_length_le (by omega)]
  unfold strings_Split strings_Split.t
  dsimp only
  rw [hg, tr_opt, Option.bind_some, tr_ret]

theorem split_loop : ∀ (l pre : List UInt8) (fr : Nat) (out : List ByteArray) (m : Nat), pre.length + l.length ≤ 3000 → fr ≤ pre.length → out.length ≤ pre.length → l.length < m →
    ∃ (out' : List ByteArray) (f' : Nat), (iterT ref23_Split.t0 m (B (pre ++ l), out, (fr : Int), (pre.length : Int), ())).run = some (.exit 0, B (pre ++ l), out', (f' : Int), ((pre.length + l.length : Nat) : Int), ()) ∧ f' ≤ pre.length + l.length ∧ out'.length ≤ 3000 ∧
      out' ++ [B ((pre ++ l).drop f')] = out ++ (sp l (pre.drop fr)).map B
  | l, pre, fr, out, 0, _, _, _, hm => absurd hm (Nat.not_lt_zero _)
  | [], pre, fr, out, m + 1, hl, hf, ho, hm => by
    have e : (ref23_Split.t0 (B (pre ++ []), out, (fr : Int), (pre.length : Int), ())).run = some (.exit 0, B (pre ++ []), out, (fr : Int), (pre.length : Int), ()) := by
      unfold ref23_Split.t0
      dsimp only
      rw [tr_no (by rw [B_size]; simp), tr_ret, List.take_length]
    refine ⟨out, fr, by rw [iter_step e]; rfl, by simpa using hf, by simp at hl; omega, ?_⟩
    simp [sp]
  | b :: l, pre, fr, out, m + 1, hl, hf, ho, hm => by
    have hl' : pre.length + l.length + 1 ≤ 3000 := by simp at hl; omega
    have hlt : (decide ((pre.length : Int) < (ByteArray.size (B (pre ++ b :: l)) : Int))) = true := by rw [B_size, decide_eq_true_eq, List.length_append, List.length_cons]; omega
    have hW : W ((pre.length : Int) + 1) = ((pre.length + 1 : Nat) : Int) := by rw [W_id (by omega) (by omega)]; omega
    have hpl : pre ++ b :: l = (pre ++ [b]) ++ l := by simp
    have hpn : (pre ++ [b]).length = pre.length + 1 := by simp
    have go : ∀ (f2 : Nat) (out2 : List ByteArray), (ref23_Split.t0 (B (pre ++ b :: l), out, (fr : Int), (pre.length : Int), ())).run = some (.normal, B (pre ++ b :: l), out2, (f2 : Int), ((pre.length + 1 : Nat) : Int), ()) →
        f2 ≤ pre.length + 1 → out2.length ≤ pre.length + 1 → out2 ++ (sp l ((pre ++ [b]).drop f2)).map B = out ++ (sp (b :: l) (pre.drop fr)).map B →
        ∃ (out' : List ByteArray) (f' : Nat), (iterT ref23_Split.t0 (m + 1) (B (pre ++ b :: l), out, (fr : Int), (pre.length : Int), ())).run = some (.exit 0, B (pre ++ b :: l), out', (f' : Int), ((pre.length + (b :: l).length : Nat) : Int), ()) ∧ f' ≤ pre.length + (b :: l).length ∧ out'.length ≤ 3000 ∧
          out' ++ [B ((pre ++ b :: l).drop f')] = out ++ (sp (b :: l) (pre.drop fr)).map B := by
      intro f2 out2 e h1 h2 h3
      obtain ⟨o, f', e1, e2, e3, e4⟩ := split_loop l (pre ++ [b]) f2 out2 m (by rw [hpn]; omega) (by rw [hpn]; omega) (by rw [hpn]; omega) (by simp at hm; omega)
      rw [hpn, ← hpl] at e1
      rw [hpn] at e2
      rw [← hpl, h3] at e4
      have e5 : pre.length + (b :: l).length = pre.length + 1 + l.length := by simp; omega
      refine ⟨o, f', ?_, by rw [e5]; exact e2, e3, e4⟩
      rw [iter_step e, e5]
      exact e1
    have hde : (pre ++ [b]).drop (pre.length + 1) = [] := by rw [← hpn]; exact List.drop_length
    by_cases h10 : b = 10
    · refine go (pre.length + 1) (out ++ [B (pre.drop fr)]) ?_ (by omega) (by simp; omega) (by
        rw [sp, if_pos h10, hde]; simp)
      have hx : ByteArray.extract (B (pre ++ b :: l)) (Int.toNat (fr : Int)) (Int.toNat (pre.length : Int)) = B (pre.drop fr) := by
        rw [B_extract, Int.toNat_natCast, Int.toNat_natCast, List.take_left' rfl]
      unfold ref23_Split.t0
      dsimp only
      rw [tr_yes hlt, sget_mid, tr_opt, Option.bind_some, tr_yes (by rw [h10]; rfl), tr_yes (by rw [B_size, List.length_append, List.length_cons]; simp only [Bool.and_eq_true, decide_eq_true_eq]; omega), tr_yes (room16 (by omega)), tr_ret, take_all, hx, hW]
    · refine go fr out ?_ (by omega) (by omega) (by
        rw [sp, if_neg h10, List.drop_append_of_le_length hf])
      have hne : ((b.toNat : Int) == 10) = false := by
        rw [beq_eq_false_iff_ne]
        intro e
        exact h10 (UInt8.toNat_inj.1 (by show b.toNat = 10; omega))
      unfold ref23_Split.t0
      dsimp only
      rw [tr_yes hlt, sget_mid, tr_opt, Option.bind_some, tr_no hne, tr_ret, List.take_length, hW]

theorem refSplit_eq (l : List UInt8) (h : l.length ≤ 3000) : ref23_Split (B l) = some ((sp l []).map B) := by
  obtain ⟨o, f, e1, e2, e3, e4⟩ := split_loop l [] 0 [] rounds (by simpa using h) (by simp) (by simp) (rounds_gt (by omega))
  rw [List.nil_append] at e1 e4
  rw [List.length_nil, Nat.zero_add] at e2
  unfold ref23_Split ref23_Split.t ref23_Split.l0
  have e1' : (iterT ref23_Split.t0 rounds (B l, [], (0 : Int), (0 : Int), ())).run = _ := e1
  rw [e1', tr_opt, Option.bind_some]
  dsimp only
  have hx : ByteArray.extract (B l) (Int.toNat (f : Int)) (((B l).size : Nat) : Int).toNat = B (l.drop f) := by
    rw [B_extract, Int.toNat_natCast, Int.toNat_natCast, B_size, List.take_length]
  rw [tr_yes (by decide), tr_yes (by rw [B_size]; simp only [Bool.and_eq_true, decide_eq_true_eq]; omega), tr_yes (room16 (by omega)), tr_ret, take_all, hx, e4, List.drop_nil, List.nil_append]
end Go.Proofs.Pen

namespace Go.Proofs.Pen
open Go Go.Proofs
set_option maxRecDepth 100000
noncomputable def law23_awake.t (_ : Unit) : T (Bool) := T.ret true
noncomputable def law23_awake.q : List AV → T AV := entry [] (outR [.bool]) fun _ => .ret (true : dens [.bool])
theorem law23_awake.ok : FnOK Tryd.prog 8 law23_awake.q := peK_entry mixed Xok [21, 22, 24, 47, 53, 29] 1000 20 Tryd.func8 (by kernel_rfl) (by kernel_rfl)
end Go.Proofs.Pen

namespace Go.Proofs.Pen
open Go Go.Proofs
def lex_Lines.L0 : List (Nat × Lay) := [(3, .row (.st (.pair TI (.sl .str)))), (4, .val TI), (9, .val (.sl .str)), (10, .val TI), (11, .val TI)]
noncomputable def lex_Lines.t0 (x : List (Int × List (ByteArray)) × Int × (List (ByteArray)) × Int × Int × Unit) : T (Ex × List (Int × List (ByteArray)) × Int × (List (ByteArray)) × Int × Int × Unit) := T.ite (decide (x.2.2.2.2.1 < x.2.2.2.1)) (T.opt (lget x.2.2.1 x.2.2.2.2.1) fun y => T.opt (lex_Words y) fun y => T.ite ((↑y.length : Int) == (0 : Int)) (T.ret (Ex.normal, List.take x.1.length x.1, W (x.2.1 + (1 : Int)), x.2.2.1, x.2.2.2.1, W (x.2.2.2.2.1 + (1 : Int)), ())) (T.ite (decide ((x.1.length + (1 : Nat)) * nat_lit 32 ≤ most)) (T.ret (Ex.normal, List.take (x.1.length + (1 : Nat)) (List.take x.1.length x.1 ++ [(W (x.2.1 + (1 : Int)), y)]), W (x.2.1 + (1 : Int)), x.2.2.1, x.2.2.2.1, W (x.2.2.2.2.1 + (1 : Int)), ())) T.fail)) (T.ret (Ex.exit (0 : Nat), List.take x.1.length x.1, x.2.1, x.2.2.1, x.2.2.2.1, x.2.2.2.2.1, ()))
noncomputable def lex_Lines.l0 (x : List (Int × List (ByteArray)) × Int × (List (ByteArray)) × Int × Int × Unit) : Option (Ex × List (Int × List (ByteArray)) × Int × (List (ByteArray)) × Int × Int × Unit) := (iterT lex_Lines.t0 rounds x).run
theorem lex_Lines.k0 : bodies 0 (lp Tryd.f15 []) = [.loop (loopIn 0 (lp Tryd.f15 []))] ∧ WP Tryd.prog 0 (.block 0 (.loop (loopIn 0 (lp Tryd.f15 [])))) (loopS lex_Lines.L0 30 0 [.exit 0] lex_Lines.l0) :=
  loop_tree (L := lex_Lines.L0) (F := ({ quiet := (ext (ext Xs 27 strings_Split.q) 19 lex_Words.q), deep := noDeep } : Fns)) (D := D0) (tab := []) (t := lex_Lines.t0) mixed (quiet_ext (quiet_ext Xok strings_Split.ok) lex_Words.ok) (deep_none _) (fun _ => rfl) (by kernel_rfl) (by kernel_rfl) trivial (fun x => by kernel_rfl)
noncomputable def lex_Lines.t (x : ByteArray) : T ((List (Int × List (ByteArray)))) := T.opt (strings_Split (x, (ByteArray.mk #[(10 : UInt8)]))) fun y => T.opt (lex_Lines.l0 ([], (0 : Int), y, (↑y.length : Int), (0 : Int), ())) fun y => T.ite (exEq y.1 (Ex.exit (0 : Nat))) (T.ret (List.take y.2.1.length y.2.1)) T.fail
noncomputable def lex_Lines (x : ByteArray) : Option ((List (Int × List (ByteArray)))) := (lex_Lines.t x).run
noncomputable def lex_Lines.q : List AV → T AV := entry [.str] (outR [(.sl (.st (.pair TI (.sl .str))))]) fun x => .opt (lex_Lines x) .ret
theorem lex_Lines.ok : FnOK Tryd.prog 15 lex_Lines.q :=
  entry_call (ps := [.str]) (rs := [(.sl (.st (.pair TI (.sl .str))))]) (F := ({ quiet := (ext (ext Xs 27 strings_Split.q) 19 lex_Words.q), deep := noDeep } : Fns)) (D := D0) (S := tabS [(0, loopS lex_Lines.L0 30 0 [.exit 0] lex_Lines.l0)]) (t := lex_Lines.t) mixed (quiet_ext (quiet_ext Xok strings_Split.ok) lex_Words.ok) (deep_none _) Tryd.func15 (by kernel_rfl) (sok_fn ⟨lex_Lines.k0, trivial⟩) (by kernel_rfl) (fun x => by kernel_rfl)
end Go.Proofs.Pen

namespace Go.Proofs.Pen
open Go Go.Proofs
def ref23_Texts.L0 : List (Nat × Lay) := [(0, .val (.sl .str)), (1, .val (.sl .str)), (4, .val .bool), (5, .val TI)]
noncomputable def ref23_Texts.t0 (x : (List (ByteArray)) × (List (ByteArray)) × Bool × Int × Unit) : T (Ex × (List (ByteArray)) × (List (ByteArray)) × Bool × Int × Unit) := T.ite (decide (x.2.2.2.1 < (↑(List.length x.1) : Int))) (T.opt (lget x.1 x.2.2.2.1) fun y => T.opt (lget x.2.1 x.2.2.2.1) fun y_1 => T.ite (!ByteArray.toList y == ByteArray.toList y_1) (T.ret (Ex.ret, x.1, x.2.1, false, x.2.2.2.1, ())) (T.ret (Ex.normal, x.1, x.2.1, x.2.2.1, W (x.2.2.2.1 + (1 : Int)), ()))) (T.ret (Ex.exit (0 : Nat), x.1, x.2.1, x.2.2.1, x.2.2.2.1, ()))
noncomputable def ref23_Texts.l0 (x : (List (ByteArray)) × (List (ByteArray)) × Bool × Int × Unit) : Option (Ex × (List (ByteArray)) × (List (ByteArray)) × Bool × Int × Unit) := (iterT ref23_Texts.t0 rounds x).run
theorem ref23_Texts.k0 : bodies 0 (lp Tryd.f18 []) = [.loop (loopIn 0 (lp Tryd.f18 []))] ∧ WP Tryd.prog 0 (.block 0 (.loop (loopIn 0 (lp Tryd.f18 [])))) (loopS ref23_Texts.L0 26 0 [.exit 0, .ret] ref23_Texts.l0) :=
  loop_tree (L := ref23_Texts.L0) (F := ({ quiet := Xs, deep := noDeep } : Fns)) (D := D0) (tab := []) (t := ref23_Texts.t0) mixed Xok (deep_none _) (fun _ => rfl) (by kernel_rfl) (by kernel_rfl) trivial (fun x => by kernel_rfl)
noncomputable def ref23_Texts.t (x : (List (ByteArray)) × (List (ByteArray))) : T (Bool) := T.ite ((↑(List.length x.1) : Int) != (↑(List.length x.2) : Int)) (T.ret false) (T.opt (ref23_Texts.l0 (x.1, x.2, false, (0 : Int), ())) fun y => T.ite (exEq y.1 (Ex.exit (0 : Nat))) (T.ret true) (T.ite (exEq y.1 Ex.ret) (T.ret y.2.2.2.1) T.fail))
noncomputable def ref23_Texts (x : (List (ByteArray)) × (List (ByteArray))) : Option (Bool) := (ref23_Texts.t x).run
noncomputable def ref23_Texts.q : List AV → T AV := entry [(.sl .str), (.sl .str)] (outR [.bool]) fun x => .opt (ref23_Texts x) .ret
theorem ref23_Texts.ok : FnOK Tryd.prog 18 ref23_Texts.q :=
  entry_call (ps := [(.sl .str), (.sl .str)]) (rs := [.bool]) (F := ({ quiet := Xs, deep := noDeep } : Fns)) (D := D0) (S := tabS [(0, loopS ref23_Texts.L0 26 0 [.exit 0, .ret] ref23_Texts.l0)]) (t := ref23_Texts.t) mixed Xok (deep_none _) Tryd.func18 (by kernel_rfl) (sok_fn ⟨ref23_Texts.k0, trivial⟩) (by kernel_rfl) (fun x => by kernel_rfl)
end Go.Proofs.Pen

namespace Go.Proofs.Pen
open Go Go.Proofs
def law23_LexLines.L0 : List (Nat × Lay) := [(2, .val .bool), (3, .val (.sl (.st (.pair TI (.sl .str))))), (4, .val TI), (5, .val (.sl .str)), (6, .val TI)]
noncomputable def law23_LexLines.t0 (x : Bool × (List (Int × List (ByteArray))) × Int × (List (ByteArray)) × Int × Unit) : T (Ex × Bool × (List (Int × List (ByteArray))) × Int × (List (ByteArray)) × Int × Unit) := T.ite (decide (x.2.2.2.2.1 < (↑(List.length x.2.2.2.1) : Int))) (T.opt (lget x.2.2.2.1 x.2.2.2.2.1) fun y => T.opt (ref23_Words y) fun y => T.opt (lget x.2.2.2.1 x.2.2.2.2.1) fun y_1 => T.opt (lex_Words y_1) fun y_2 => T.opt (ref23_Texts (y_2, y)) fun y_3 => T.ite (!y_3) (T.ret (Ex.ret, false, x.2.1, x.2.2.1, x.2.2.2.1, x.2.2.2.2.1, ())) (T.ite ((↑y.length : Int) == (0 : Int)) (T.ret (Ex.normal, x.1, x.2.1, x.2.2.1, x.2.2.2.1, W (x.2.2.2.2.1 + (1 : Int)), ())) (T.ite (decide (x.2.2.1 ≥ (↑(List.length x.2.1) : Int))) (T.ret (Ex.ret, false, x.2.1, x.2.2.1, x.2.2.2.1, x.2.2.2.2.1, ())) (T.opt (lget x.2.1 x.2.2.1) fun y_4 => T.ite (y_4.fst != W (x.2.2.2.2.1 + (1 : Int))) (T.ret (Ex.ret, false, x.2.1, x.2.2.1, x.2.2.2.1, x.2.2.2.2.1, ())) (T.opt (lget x.2.1 x.2.2.1) fun y_5 => T.opt (ref23_Texts (y_5.snd, y)) fun y => T.ite (!y) (T.ret (Ex.ret, false, x.2.1, x.2.2.1, x.2.2.2.1, x.2.2.2.2.1, ())) (T.ret (Ex.normal, x.1, x.2.1, W (x.2.2.1 + (1 : Int)), x.2.2.2.1, W (x.2.2.2.2.1 + (1 : Int)), ()))))))) (T.ret (Ex.exit (0 : Nat), x.1, x.2.1, x.2.2.1, x.2.2.2.1, x.2.2.2.2.1, ()))
noncomputable def law23_LexLines.l0 (x : Bool × (List (Int × List (ByteArray))) × Int × (List (ByteArray)) × Int × Unit) : Option (Ex × Bool × (List (Int × List (ByteArray))) × Int × (List (ByteArray)) × Int × Unit) := (iterT law23_LexLines.t0 rounds x).run
theorem law23_LexLines.k0 : bodies 0 (lp Tryd.f6 []) = [.loop (loopIn 0 (lp Tryd.f6 []))] ∧ WP Tryd.prog 0 (.block 0 (.loop (loopIn 0 (lp Tryd.f6 [])))) (loopS law23_LexLines.L0 71 0 [.exit 0, .ret] law23_LexLines.l0) :=
  loop_tree (L := law23_LexLines.L0) (F := ({ quiet := (ext (ext (ext (ext (ext (ext Xs 8 law23_awake.q) 15 lex_Lines.q) 16 ref23_Split.q) 17 ref23_Words.q) 19 lex_Words.q) 18 ref23_Texts.q), deep := noDeep } : Fns)) (D := D0) (tab := []) (t := law23_LexLines.t0) mixed (quiet_ext (quiet_ext (quiet_ext (quiet_ext (quiet_ext (quiet_ext Xok law23_awake.ok) lex_Lines.ok) ref23_Split.ok) ref23_Words.ok) lex_Words.ok) ref23_Texts.ok) (deep_none _) (fun _ => rfl) (by kernel_rfl) (by kernel_rfl) trivial (fun x => by kernel_rfl)
noncomputable def law23_LexLines.t (x : ByteArray) : T (Bool) := T.ite (decide ((↑(ByteArray.size x) : Int) > (3000 : Int))) (T.ret true) (T.opt (lex_Lines x) fun y => T.opt (ref23_Split x) fun y_1 => T.opt (law23_LexLines.l0 (false, y, (0 : Int), y_1, (0 : Int), ())) fun y => T.ite (exEq y.1 (Ex.exit (0 : Nat))) (T.ret (y.2.2.2.1 == (↑(List.length y.2.2.1) : Int))) (T.ite (exEq y.1 Ex.ret) (T.ret y.2.1) T.fail))
noncomputable def law23_LexLines (x : ByteArray) : Option (Bool) := (law23_LexLines.t x).run
noncomputable def law23_LexLines.q : List AV → T AV := entry [.str] (outR [.bool]) fun x => .opt (law23_LexLines x) .ret
theorem law23_LexLines.ok : FnOK Tryd.prog 6 law23_LexLines.q :=
  entry_call (ps := [.str]) (rs := [.bool]) (F := ({ quiet := (ext (ext (ext (ext (ext (ext Xs 8 law23_awake.q) 15 lex_Lines.q) 16 ref23_Split.q) 17 ref23_Words.q) 19 lex_Words.q) 18 ref23_Texts.q), deep := noDeep } : Fns)) (D := D0) (S := tabS [(0, loopS law23_LexLines.L0 71 0 [.exit 0, .ret] law23_LexLines.l0)]) (t := law23_LexLines.t) mixed (quiet_ext (quiet_ext (quiet_ext (quiet_ext (quiet_ext (quiet_ext Xok law23_awake.ok) lex_Lines.ok) ref23_Split.ok) ref23_Words.ok) lex_Words.ok) ref23_Texts.ok) (deep_none _) Tryd.func6 (by kernel_rfl) (sok_fn ⟨law23_LexLines.k0, trivial⟩) (by kernel_rfl) (fun x => by kernel_rfl)
end Go.Proofs.Pen

namespace Go.Proofs.Pen
open Go Go.Proofs

theorem lget_mid {α : Type} (pre : List α) (x : α) (l : List α) : lget (pre ++ x :: l) (pre.length : Int) = some x := by
  unfold lget
  rw [if_neg (by omega), Int.toNat_natCast, List.getElem?_append_right (Nat.le_refl _), Nat.sub_self]; rfl

theorem Texts_same (ks : List ByteArray) (h : ks.length ≤ 9000) : ref23_Texts (ks, ks) = some true := by
  have hl := iter_count (t := ref23_Texts.t0) (fun i : Nat => ((ks, ks, false, (i : Int), ()) : List ByteArray × List ByteArray × Bool × Int × Unit)) (e := .exit 0) (z := (ks, ks, false, (ks.length : Int), ())) (by simp) ks.length 0 rounds (fun i _ hi => by
    have hi' : i < ks.length := by omega
    unfold ref23_Texts.t0
    dsimp only
    rw [tr_yes (by rw [decide_eq_true_eq]; omega), lget_nat ks hi', tr_opt, Option.bind_some, tr_opt, Option.bind_some, tr_no (by simp), tr_ret, W_succ (by omega)]) (by
    unfold ref23_Texts.t0
    dsimp only
    rw [tr_no (by rw [decide_eq_false_iff_not]; omega), tr_ret]
    simp) (rounds_gt (by omega))
  unfold ref23_Texts ref23_Texts.t
  rw [tr_no (by simp), tr_opt]
  unfold ref23_Texts.l0
  have hl' : (iterT ref23_Texts.t0 rounds (ks, ks, false, (0 : Int), ())).run = _ := hl
  rw [hl', Option.bind_some]
  rfl

theorem sp_len : ∀ (l cur : List UInt8), (sp l cur).length ≤ l.length + 1
  | [], _ => by simp [sp]
  | b :: l, cur => by
    rw [sp]
    split
    · have := sp_len l []; simp; omega
    · have := sp_len l (cur ++ [b]); simp; omega
theorem sp_mem : ∀ (l cur : List UInt8), ∀ x ∈ sp l cur, x.length ≤ cur.length + l.length
  | [], cur => by simp [sp]
  | b :: l, cur => by
    rw [sp]
    split
    · intro x hx
      rcases List.mem_cons.1 hx with rfl | hx
      · simp
      · have := sp_mem l [] x hx; simp at this ⊢; omega
    · intro x hx
      have := sp_mem l (cur ++ [b]) x hx; simp at this ⊢; omega
theorem wd_len : ∀ (l cur : List UInt8), (wd l cur).length ≤ l.length + 1
  | [], cur => by rw [wd]; split <;> simp
  | b :: l, cur => by
    rw [wd]
    have h1 := wd_len l []
    have h2 := wd_len l (cur ++ [b])
    split
    · split
      · simp; omega
      · simp; omega
    · simp; omega
theorem tw_len : ∀ l : List UInt8, (tw l).length ≤ l.length
  | [] => by simp [tw]
  | b :: l => by
    rw [tw]
    have := tw_len l
    split <;> simp <;> omega
theorem ws_len (l : List UInt8) : (ws l).length ≤ l.length + 1 := by
  unfold ws
  rw [List.length_map]
  have h1 := wd_len (tw l) []
  have h2 := tw_len l
  omega

/-- The lines that have words. -/
def ln : List (List UInt8) → Nat → List (Int × List ByteArray)
  | [], _ => []
  | x :: l, i => if (ws x).length = 0 then ln l (i + 1) else (((i + 1 : Nat) : Int), ws x) :: ln l (i + 1)

theorem room32 {n : Nat} (h : n < 100000) : decide ((n + 1) * 32 ≤ most) = true := by
  rw [decide_eq_true_eq]; exact room h (by omega)

theorem lines_loop : ∀ (post pre : List (List UInt8)) (out : List (Int × List ByteArray)) (m : Nat), pre.length + post.length ≤ 4000 → (∀ x ∈ post, x.length ≤ 3000) → out.length ≤ pre.length → post.length < m →
    ∃ z, (iterT lex_Lines.t0 m (out, (pre.length : Int), (pre ++ post).map B, ((pre.length + post.length : Nat) : Int), (pre.length : Int), ())).run = some (.exit 0, out ++ ln post pre.length, z)
  | post, pre, out, 0, _, _, _, hm => absurd hm (Nat.not_lt_zero _)
  | [], pre, out, m + 1, hl, hx, ho, hm => by
    have e : (lex_Lines.t0 (out, (pre.length : Int), (pre ++ []).map B, ((pre.length + ([] : List (List UInt8)).length : Nat) : Int), (pre.length : Int), ())).run = some (.exit 0, out, (pre.length : Int), (pre ++ []).map B, ((pre.length + ([] : List (List UInt8)).length : Nat) : Int), (pre.length : Int), ()) := by
      unfold lex_Lines.t0
      dsimp only
      rw [tr_no (by simp), tr_ret, List.take_length]
    have hnil : ln [] pre.length = [] := rfl
    rw [iter_step e]
    simp only [hnil, List.append_nil]
    exact ⟨_, rfl⟩
  | x :: post, pre, out, m + 1, hl, hx, ho, hm => by
    have hl' : pre.length + post.length + 1 ≤ 4000 := by simp at hl; omega
    have hX : (pre ++ x :: post).map B = pre.map B ++ B x :: post.map B := by simp
    have hX2 : (pre ++ x :: post).map B = ((pre ++ [x]) ++ post).map B := by simp
    have hpn : (pre ++ [x]).length = pre.length + 1 := by simp
    have hlen : pre.length + (x :: post).length = (pre ++ [x]).length + post.length := by simp; omega
    have hg : lget ((pre ++ x :: post).map B) (pre.length : Int) = some (B x) := by
      rw [hX, show (pre.length : Int) = ((pre.map B).length : Int) by simp]
      exact lget_mid _ _ _
    have hlt : decide ((pre.length : Int) < ((pre.length + (x :: post).length : Nat) : Int)) = true := by rw [decide_eq_true_eq, List.length_cons]; omega
    have hW : W ((pre.length : Int) + 1) = (((pre ++ [x]).length : Nat) : Int) := by rw [W_id (by omega) (by omega), hpn]; omega
    have hw := Words_eq x (hx x (by simp))
    by_cases hz : (ws x).length = 0
    · have e : (lex_Lines.t0 (out, (pre.length : Int), (pre ++ x :: post).map B, ((pre.length + (x :: post).length : Nat) : Int), (pre.length : Int), ())).run = some (.normal, out, (((pre ++ [x]).length : Nat) : Int), ((pre ++ [x]) ++ post).map B, (((pre ++ [x]).length + post.length : Nat) : Int), (((pre ++ [x]).length : Nat) : Int), ()) := by
        unfold lex_Lines.t0
        dsimp only
        rw [tr_yes hlt, hg, tr_opt, Option.bind_some, hw, tr_opt, Option.bind_some, tr_yes (by rw [hz]; rfl), tr_ret, List.take_length, hW, hX2, hlen]
      obtain ⟨z, ih⟩ := lines_loop post (pre ++ [x]) out m (by rw [hpn]; omega) (fun y hy => hx y (by simp [hy])) (by rw [hpn]; omega) (by simp at hm; omega)
      refine ⟨z, ?_⟩
      rw [iter_step e]
      show (iterT lex_Lines.t0 m _).run = _
      rw [ih, ln, if_pos hz, hpn]
    · have e : (lex_Lines.t0 (out, (pre.length : Int), (pre ++ x :: post).map B, ((pre.length + (x :: post).length : Nat) : Int), (pre.length : Int), ())).run = some (.normal, out ++ [((((pre ++ [x]).length : Nat) : Int), ws x)], (((pre ++ [x]).length : Nat) : Int), ((pre ++ [x]) ++ post).map B, (((pre ++ [x]).length + post.length : Nat) : Int), (((pre ++ [x]).length : Nat) : Int), ()) := by
        unfold lex_Lines.t0
        dsimp only
        rw [tr_yes hlt, hg, tr_opt, Option.bind_some, hw, tr_opt, Option.bind_some, tr_no (by rw [beq_eq_false_iff_ne]; omega), tr_yes (room32 (by omega)), tr_ret, take_all, hW, hX2, hlen]
      obtain ⟨z, ih⟩ := lines_loop post (pre ++ [x]) (out ++ [((((pre ++ [x]).length : Nat) : Int), ws x)]) m (by rw [hpn]; omega) (fun y hy => hx y (by simp [hy])) (by simp; omega) (by simp at hm; omega)
      refine ⟨z, ?_⟩
      rw [iter_step e]
      show (iterT lex_Lines.t0 m _).run = _
      rw [ih, ln, if_neg hz, hpn]
      simp

theorem Lines_eq (l : List UInt8) (h : l.length ≤ 3000) : lex_Lines (B l) = some (ln (sp l []) 0) := by
  have h1 := sp_len l []
  have h2 := sp_mem l []
  obtain ⟨z, hz⟩ := lines_loop (sp l []) [] [] rounds (by simp; omega) (fun x hx => by have := h2 x hx; simp at this; omega) (by simp) (rounds_gt (by omega))
  unfold lex_Lines lex_Lines.t lex_Lines.l0
  have hm : ByteArray.mk #[(10 : UInt8)] = B [10] := rfl
  rw [hm, gen_eq l h, tr_opt, Option.bind_some]
  have e : (((sp l []).map B).length : Int) = ((([] : List (List UInt8)).length + (sp l []).length : Nat) : Int) := by simp
  rw [e]
  have hz' : (iterT lex_Lines.t0 rounds ([], (0 : Int), (sp l []).map B, ((([] : List (List UInt8)).length + (sp l []).length : Nat) : Int), (0 : Int), ())).run = _ := hz
  rw [hz', tr_opt, Option.bind_some]
  dsimp only
  rw [tr_yes (by decide), tr_ret, List.nil_append, List.take_length]
  rfl

theorem law_loop (r : Bool) : ∀ (post pre : List (List UInt8)) (done : List (Int × List ByteArray)) (m : Nat), pre.length + post.length ≤ 4000 → (∀ x ∈ post, x.length ≤ 3000) → done.length ≤ pre.length → post.length < m →
    ∃ z, (iterT law23_LexLines.t0 m (r, done ++ ln post pre.length, (done.length : Int), (pre ++ post).map B, (pre.length : Int), ())).run = some (.exit 0, r, done ++ ln post pre.length, ((done ++ ln post pre.length).length : Int), z)
  | post, pre, out, 0, _, _, _, hm => absurd hm (Nat.not_lt_zero _)
  | [], pre, done, m + 1, hl, hx, ho, hm => by
    have e : (law23_LexLines.t0 (r, done ++ ln [] pre.length, (done.length : Int), (pre ++ []).map B, (pre.length : Int), ())).run = some (.exit 0, r, done ++ ln [] pre.length, (done.length : Int), (pre ++ []).map B, (pre.length : Int), ()) := by
      unfold law23_LexLines.t0
      dsimp only
      rw [tr_no (by simp), tr_ret]
    have hnil : ln [] pre.length = [] := rfl
    rw [iter_step e]
    simp only [hnil, List.append_nil]
    exact ⟨_, rfl⟩
  | x :: post, pre, done, m + 1, hl, hx, ho, hm => by
    have hl' : pre.length + post.length + 1 ≤ 4000 := by simp at hl; omega
    have hX : (pre ++ x :: post).map B = pre.map B ++ B x :: post.map B := by simp
    have hX2 : (pre ++ x :: post).map B = ((pre ++ [x]) ++ post).map B := by simp
    have hpn : (pre ++ [x]).length = pre.length + 1 := by simp
    have hg : lget ((pre ++ x :: post).map B) (pre.length : Int) = some (B x) := by
      rw [hX, show (pre.length : Int) = ((pre.map B).length : Int) by simp]
      exact lget_mid _ _ _
    have hlt : decide ((pre.length : Int) < (List.length ((pre ++ x :: post).map B) : Int)) = true := by rw [decide_eq_true_eq, List.length_map, List.length_append, List.length_cons]; omega
    have hW : W ((pre.length : Int) + 1) = (((pre ++ [x]).length : Nat) : Int) := by rw [W_id (by omega) (by omega), hpn]; omega
    have hxl := hx x (by simp)
    have hw := Words_eq x hxl
    have hw2 := refWords_eq x hxl
    have hwl := ws_len x
    have ht := Texts_same (ws x) (by omega)
    by_cases hz : (ws x).length = 0
    · have hln : ln (x :: post) pre.length = ln post (pre ++ [x]).length := by rw [ln, if_pos hz, hpn]
      have e : (law23_LexLines.t0 (r, done ++ ln (x :: post) pre.length, (done.length : Int), (pre ++ x :: post).map B, (pre.length : Int), ())).run = some (.normal, r, done ++ ln post (pre ++ [x]).length, (done.length : Int), ((pre ++ [x]) ++ post).map B, (((pre ++ [x]).length : Nat) : Int), ()) := by
        unfold law23_LexLines.t0
        dsimp only
        rw [tr_yes hlt, hg, tr_opt, Option.bind_some, hw2, tr_opt, Option.bind_some, tr_opt, Option.bind_some, hw, tr_opt, Option.bind_some, ht, tr_opt, Option.bind_some, tr_no (b := !true) rfl, tr_yes (by rw [hz]; rfl), tr_ret, hW, hX2, hln]
      obtain ⟨z, ih⟩ := law_loop r post (pre ++ [x]) done m (by rw [hpn]; omega) (fun y hy => hx y (by simp [hy])) (by rw [hpn]; omega) (by simp at hm; omega)
      refine ⟨z, ?_⟩
      rw [iter_step e]
      show (iterT law23_LexLines.t0 m _).run = _
      rw [ih, hln]
    · have hln : done ++ ln (x :: post) pre.length = (done ++ [((((pre ++ [x]).length : Nat) : Int), ws x)]) ++ ln post (pre ++ [x]).length := by rw [ln, if_neg hz, hpn]; simp
      have hln2 : done ++ ln (x :: post) pre.length = done ++ ((((pre ++ [x]).length : Nat) : Int), ws x) :: ln post (pre ++ [x]).length := by rw [hln]; simp
      have hg2 : lget (done ++ ln (x :: post) pre.length) (done.length : Int) = some ((((pre ++ [x]).length : Nat) : Int), ws x) := by rw [hln2]; exact lget_mid _ _ _
      have hW2 : W ((done.length : Int) + 1) = (((done ++ [((((pre ++ [x]).length : Nat) : Int), ws x)]).length : Nat) : Int) := by rw [W_id (by omega) (by omega)]; simp
      have hlen2 : decide ((done.length : Int) ≥ (List.length (done ++ ln (x :: post) pre.length) : Int)) = false := by rw [hln2, decide_eq_false_iff_not, List.length_append, List.length_cons]; omega
      have e : (law23_LexLines.t0 (r, done ++ ln (x :: post) pre.length, (done.length : Int), (pre ++ x :: post).map B, (pre.length : Int), ())).run = some (.normal, r, (done ++ [((((pre ++ [x]).length : Nat) : Int), ws x)]) ++ ln post (pre ++ [x]).length, (((done ++ [((((pre ++ [x]).length : Nat) : Int), ws x)]).length : Nat) : Int), ((pre ++ [x]) ++ post).map B, (((pre ++ [x]).length : Nat) : Int), ()) := by
        unfold law23_LexLines.t0
        dsimp only
        rw [tr_yes hlt, hg, tr_opt, Option.bind_some, hw2, tr_opt, Option.bind_some, tr_opt, Option.bind_some, hw, tr_opt, Option.bind_some, ht, tr_opt, Option.bind_some, tr_no (b := !true) rfl, tr_no (by rw [beq_eq_false_iff_ne]; omega), tr_no hlen2, hg2, tr_opt, Option.bind_some, hW, tr_no (by simp), tr_opt, Option.bind_some, ht, tr_opt, Option.bind_some, tr_no (b := !true) rfl, tr_ret, hW2, hX2, hln]
      obtain ⟨z, ih⟩ := law_loop r post (pre ++ [x]) (done ++ [((((pre ++ [x]).length : Nat) : Int), ws x)]) m (by rw [hpn]; omega) (fun y hy => hx y (by simp [hy])) (by simp; omega) (by simp at hm; omega)
      refine ⟨z, ?_⟩
      rw [iter_step e]
      show (iterT law23_LexLines.t0 m _).run = _
      rw [ih, hln]

theorem LexLines_law (x : ByteArray) : (law23_LexLines.t x).run = some true := by
  unfold law23_LexLines.t
  rw [tr_ite]
  split
  · rfl
  · rename_i hsz
    rw [decide_eq_true_eq] at hsz
    rw [← B_self x] at hsz ⊢
    generalize x.data.toList = l at *
    rw [B_size] at hsz
    have h : l.length ≤ 3000 := by omega
    have h1 := sp_len l []
    have h2 := sp_mem l []
    obtain ⟨z, hz⟩ := law_loop false (sp l []) [] [] rounds (by simp; omega) (fun x hx => by have := h2 x hx; simp at this; omega) (by simp) (rounds_gt (by omega))
    rw [Lines_eq l h, tr_opt, Option.bind_some, refSplit_eq l h, tr_opt, Option.bind_some]
    unfold law23_LexLines.l0
    have hz' : (iterT law23_LexLines.t0 rounds (false, ln (sp l []) 0, (0 : Int), (sp l []).map B, (0 : Int), ())).run = _ := hz
    rw [hz', tr_opt, Option.bind_some]
    dsimp only
    rw [tr_yes (by decide), tr_ret, beq_self_eq_true]

theorem LexLines_all (x : dens [.str]) (_ : insAll [.str] x) : (law23_LexLines.t x).run = some true := LexLines_law x
end Go.Proofs.Pen
