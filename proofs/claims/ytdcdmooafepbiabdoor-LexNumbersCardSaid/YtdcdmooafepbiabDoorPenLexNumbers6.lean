/- A part of the proof that the law LexNumbers is true of every input: models of the functions that the law reaches, and what holds of them. -/
import Derived.Test.YtdcdmooafepbiabDoorRows
import Derived.Lay
import Derived.LaidHandle
import Derived.KernelRfl
import Derived.WalkKit
import Derived.Lib.Walk
import Derived.Test.YtdcdmooafepbiabDoorChecked
import Derived.Test.YtdcdmooafepbiabDoorPenKit0
import Derived.Test.YtdcdmooafepbiabDoorPenKit1
import Derived.Test.YtdcdmooafepbiabDoorPenKit2
import Derived.Test.YtdcdmooafepbiabDoorPenKit3
import Derived.Test.YtdcdmooafepbiabDoorPenLexNumbers4
import Derived.Test.YtdcdmooafepbiabDoorPenKit5
namespace Go.Proofs.Pen
open Go Go.Proofs Go.ChangeShapes Go.WideShapes Go.RowKit Go.Proofs.YtdcdmooafepbiabDoor

/-- What this program's laid variables read as. -/
def doorL : List (String × DataW Unit) := [("unicode/utf8.acceptRanges", Rows.laid_unicode_utf8_acceptRanges), ("unicode/utf8.first", Rows.laid_unicode_utf8_first)]

theorem no_errorType : Tryd.prog.globalNamed "errors.errorType" = none := by kernel_rfl
theorem door_glob : ∀ W, laidMetH Tryd.prog doorL W → ∀ a u, globOf Tryd.prog a = some u → W.cell? a = some u := fun W _ a u h => by
  unfold globOf at h
  rw [no_errorType] at h
  cases h

/-- A world in which they are laid. -/
noncomputable def doorWorld (os : Os) : World := World.laidAll Tryd.prog os doorL
theorem doorWorld_met (os : Os) (args : Array Value) : laidMetH Tryd.prog doorL ((doorWorld os).forCall (fun _ _ => 0) ⟨#[], args, []⟩).memory := by
  refine laidMetH_of_parts ?_ (by kernel_rfl)
  have h : (doorL.filter fun x => x.2.handleName?.isNone) = doorL := by kernel_rfl
  rw [h]
  exact laidMet_laidAll args (by kernel_rfl) (by kernel_rfl)

/-! ### The library's contracts -/
theorem fn_below {P : Program} {g : Nat} {args : List AV} {v : AV} (hc : callable P g = true)
    (h : ∀ (r : Res) (w : World) (us : List Value), LRel r args us → ∃ u, VRel r v u ∧ Calls P g us.toArray w fun e w' => e = .returned u ∧ Below w.heap.size w w') : FnAt P g args v := by
  refine ⟨hc, fun r w us hι hp _ hl => ?_⟩
  obtain ⟨u, hv, hk⟩ := h r w us hl
  refine hk.mono ?_
  rintro e w' ⟨rfl, hb⟩
  refine ⟨u, r, rfl, .refl r, hb, fun a x e => ?_, fun a x e => .inl e, hι, hv⟩
  have hc := hp a x e
  have hlt : a.block < w.heap.size := by
    rcases Nat.lt_or_ge a.block w.heap.size with h | h
    · exact h
    · simp [World.cell?, Array.getElem?_eq_none h] at hc
  rw [← hc]
  exact World.cell?_of_block (hb.block _ hlt)

theorem calls_below {P : Program} {g : Nat} {us : Array Value} {w : World} {u : Value} (h : Calls P g us w fun e w' => e = .returned u ∧ w' = w) : Calls P g us w fun e w' => e = .returned u ∧ Below w.heap.size w w' :=
  h.mono fun e w' k => ⟨k.1, k.2 ▸ Below.refl _ _⟩

def byteH (c : ByteArray) : UInt8 := c.data.getD 0 0
theorem byteOf_some {c : ByteArray} (h : c.size = 1) : c = ⟨#[byteH c]⟩ := by
  obtain ⟨⟨l⟩⟩ := c
  match l, h with
  | [b], _ => rfl

def trimR (s : ByteArray) (b : UInt8) : ByteArray := ⟨(Lib.trimRightB s.data.toList b).toArray⟩
def cutP (s p : ByteArray) : ByteArray := ⟨(Lib.trimPrefix s.data.toList p.data.toList).toArray⟩
def hasP (s p : ByteArray) : Bool := Lib.hasPrefix s.data.toList p.data.toList
def indexB (s : ByteArray) (b : UInt8) : Int := Lib.indexByte s.data.toList b
def countB (s : ByteArray) (b : UInt8) : Int := Lib.countByte s.data.toList b
def repB (s : ByteArray) (n : Int) : ByteArray := ⟨(Lib.repeatL s.data.toList n.toNat).toArray⟩

def trimAV (args : List AV) : T AV := match args with
  | [.sr s, .sr c] => .ite (decide (c.size = 1) && decide ((byteH c).toNat < 128) && decide (s.size ≤ 9223372036854775807)) (.ret (.sr (trimR s (byteH c)))) .fail
  | _ => .fail
theorem trim_ok : FnOK Tryd.prog 21 trimAV := by
  intro args v hv
  unfold trimAV at hv
  split at hv
  case h_2 => exact (run_fail hv).elim
  rename_i s c
  obtain ⟨h1, hv2⟩ := run_ite_fail hv
  clear hv
  simp only [Bool.and_eq_true, decide_eq_true_eq] at h1
  obtain ⟨⟨h0, h1⟩, h2⟩ := h1
  generalize hb : byteH c = b at hv2 h1
  have hc := byteOf_some h0
  rw [hb] at hc
  subst hc
  replace h1 := And.intro h1 h2
  cases run_ret hv2
  refine fn_below (by kernel_rfl) fun r w us hl => ?_
  simp only [LRel] at hl
  obtain ⟨u1, us1, rfl, k1, u2, us2, rfl, k2, rfl⟩ := hl
  simp only [VRel] at k1 k2
  subst k1 k2
  exact ⟨_, by simp only [VRel]; rfl, calls_below (Tryd.strings_TrimRight_one s b h1.1 w h1.2)⟩

def cutPrefixAV (args : List AV) : T AV := match args with
  | [.sr s, .sr p] => .ret (.tup [.sr (cutP s p), .bo (hasP s p)])
  | _ => .fail
theorem cutPrefix_ok : FnOK Tryd.prog 22 cutPrefixAV := by
  intro args v hv
  unfold cutPrefixAV at hv
  split at hv
  case h_2 => exact (run_fail hv).elim
  rename_i s p
  cases run_ret hv
  refine fn_below (by kernel_rfl) fun r w us hl => ?_
  simp only [LRel] at hl
  obtain ⟨u1, us1, rfl, k1, u2, us2, rfl, k2, rfl⟩ := hl
  simp only [VRel] at k1 k2
  subst k1 k2
  exact ⟨_, by simp only [VRel, LRel]; exact ⟨_, rfl, _, _, rfl, rfl, _, _, rfl, rfl, rfl⟩, calls_below (Tryd.strings_CutPrefix s p w)⟩

def indexAV1 (args : List AV) : T AV := match args with
  | [.sr s, .sr c] => .ite (decide (c.size = 1)) (.ret (.it .i64 (indexB s (byteH c)))) .fail
  | _ => .fail
theorem index_ok : FnOK Tryd.prog 47 indexAV1 := by
  intro args v hv
  unfold indexAV1 at hv
  split at hv
  case h_2 => exact (run_fail hv).elim
  rename_i s c
  obtain ⟨h0, hv2⟩ := run_ite_fail hv
  clear hv
  simp only [decide_eq_true_eq] at h0
  generalize hb : byteH c = b at hv2
  have hc := byteOf_some h0
  rw [hb] at hc
  subst hc
  cases run_ret hv2
  refine fn_below (by kernel_rfl) fun r w us hl => ?_
  simp only [LRel] at hl
  obtain ⟨u1, us1, rfl, k1, u2, us2, rfl, k2, rfl⟩ := hl
  simp only [VRel] at k1 k2
  subst k1 k2
  exact ⟨_, by simp only [VRel]; rfl, calls_below (Tryd.stringslite_Index_one s b w)⟩

def countAV1 (args : List AV) : T AV := match args with
  | [.sr s, .sr c] => .ite (decide (c.size = 1)) (.ret (.it .i64 (countB s (byteH c)))) .fail
  | _ => .fail
theorem count_ok : FnOK Tryd.prog 53 countAV1 := by
  intro args v hv
  unfold countAV1 at hv
  split at hv
  case h_2 => exact (run_fail hv).elim
  rename_i s c
  obtain ⟨h0, hv2⟩ := run_ite_fail hv
  clear hv
  simp only [decide_eq_true_eq] at h0
  generalize hb : byteH c = b at hv2
  have hc := byteOf_some h0
  rw [hb] at hc
  subst hc
  cases run_ret hv2
  refine fn_below (by kernel_rfl) fun r w us hl => ?_
  simp only [LRel] at hl
  obtain ⟨u1, us1, rfl, k1, u2, us2, rfl, k2, rfl⟩ := hl
  simp only [VRel] at k1 k2
  subst k1 k2
  exact ⟨_, by simp only [VRel]; rfl, calls_below (Tryd.strings_Count_one s b w)⟩

def repeatAV (args : List AV) : T AV := match args with
  | [.sr s, .it .i64 n] => .ite (decide (0 ≤ n) && decide ((s.size : Int) * n ≤ 140737488355328) && decide (n ≤ 9223372036854775807)) (.ret (.sr (repB s n))) .fail
  | _ => .fail
theorem repeat_ok : FnOK Tryd.prog 24 repeatAV := by
  intro args v hv
  unfold repeatAV at hv
  split at hv
  case h_2 => exact (run_fail hv).elim
  rename_i s n
  obtain ⟨h1, hv⟩ := run_ite_fail hv
  simp only [Bool.and_eq_true, decide_eq_true_eq] at h1
  obtain ⟨⟨h0, h1⟩, h2⟩ := h1
  cases run_ret hv
  obtain ⟨c, rfl⟩ : ∃ c : Nat, n = c := ⟨n.toNat, by omega⟩
  refine fn_below (by kernel_rfl) fun r w us hl => ?_
  simp only [LRel] at hl
  obtain ⟨u1, us1, rfl, k1, u2, us2, rfl, k2, rfl⟩ := hl
  simp only [VRel] at k1 k2
  subst k1 k2
  have h1 : s.size * c ≤ 140737488355328 := by
    have : ((s.size * c : Nat) : Int) ≤ 140737488355328 := by rw [Int.natCast_mul]; exact h1
    omega
  exact ⟨_, by simp only [VRel]; rfl, Tryd.strings_Repeat s c w (by omega) h1⟩
end Go.Proofs.Pen

namespace Go.Proofs.Pen
open Go Go.Proofs Go.RowKit Go.Lib Go.Shelf

/-! ### strings.FieldsFunc with lex.Words' closure -/
def blankN (n : Nat) : Bool := n == 32 || n == 9

theorem blank_gives (W : World) (x : Nat) : FnGives Tryd.prog 28 #[] #[encR x] (.bool (blankN x)) W := by
  unfold FnGives blankN encR
  by_cases h1 : x = 32
  · subst h1
    go_enter Tryd.func28, Tryd.ntmps28
    go_wp2
    go_ret
    exact ⟨rfl, 0, rfl⟩
  · by_cases h2 : x = 9
    · subst h2
      go_enter Tryd.func28, Tryd.ntmps28
      go_wp2
      go_ret
      exact ⟨rfl, 0, rfl⟩
    · have e1 : ((x : Int) == 32) = false := by simp; omega
      have e2 : ((x : Int) == 9) = false := by simp; omega
      have e3 : (x == 32 || x == 9) = false := by simp [h1, h2]
      rw [e3]
      go_enter Tryd.func28, Tryd.ntmps28
      go_wp2
      go_ret
      exact ⟨rfl, 0, rfl⟩

theorem fn_texts {P : Program} {g : Nat} {args : List AV} {xs : List ByteArray} (hc : callable P g = true)
    (h : ∀ (r : Res) (w : World) (us : List Value), LRel r args us → Calls P g us.toArray w fun e w' => ∃ A, e = .returned (.slice (some ⟨A, 0, none⟩) xs.length xs.length) ∧ w.heap.size ≤ A ∧
      (∀ j u, (xs.map Value.string)[j]? = some u → w'.cell? ((⟨A, 0, none⟩ : Addr).add j) = some u) ∧ Below w.heap.size w w') : FnAt P g args (.sl .str xs) := by
  refine ⟨hc, fun r w us hι hp _ hl => (h r w us hl).mono ?_⟩
  rintro e w' ⟨A, rfl, hA, hx, hb⟩
  have hlt : ∀ a x, r.H a = some x → a.block < w.heap.size := fun a x e => by
    have hc := hp a x e
    rcases Nat.lt_or_ge a.block w.heap.size with h | h
    · exact h
    · simp [World.cell?, Array.getElem?_eq_none h] at hc
  let r' : Res := { H := fun a => if a.block < w.heap.size then r.H a else w'.cell? a, ι := r.ι }
  have hH : ∀ a, r'.H a = if a.block < w.heap.size then r.H a else w'.cell? a := fun _ => rfl
  refine ⟨_, r', rfl, ⟨fun a x e => by rw [hH, if_pos (hlt a x e)]; exact e, fun _ _ e => e⟩, hb, fun a x e => ?_, fun a x e => ?_, hι, ?_⟩
  · rw [hH] at e
    split at e
    · rename_i hlt'
      rw [← hp a x e]
      exact World.cell?_of_block (hb.block _ hlt')
    · exact e
  · rw [hH] at e
    split at e
    · exact .inl e
    · rename_i h; exact .inr (by omega)
  · simp only [VRel]
    refine ⟨_, _, rfl, Nat.le_refl _, fun _ => ⟨⟨A, 0, none⟩, rfl, fun i x hi => ⟨[.string x], rfl, rfl, fun j u hu => ?_⟩⟩⟩
    cases j with
    | zero =>
      have hu : Value.string x = u := by simpa using hu
      subst hu
      have hm : (xs.map Value.string)[i]? = some (Value.string x) := by rw [List.getElem?_map]; exact congrArg (Option.map Value.string) (show xs[i]? = some x from hi)
      have hcell := hx i _ hm
      have ead : ((⟨A, 0, none⟩ : Addr).add (i * 1)).add 0 = (⟨A, 0, none⟩ : Addr).add i := by simp [Addr.add]
      show r'.H (((⟨A, 0, none⟩ : Addr).add (i * 1)).add 0) = _
      rw [ead, hH]
      have hb2 : ((⟨A, 0, none⟩ : Addr).add i).block = A := by rw [Addr.add_lit]
      rw [hb2, if_neg (by omega)]
      exact hcell
    | succ j => simp at hu

def fieldsAV (args : List AV) : T AV := match args with
  | [.sr s, .clo f [] []] => if f = 28 then .ite (decide (s.size ≤ 4294967296)) (.ret (.sl .str (goFieldsP blankN s))) .fail else .fail
  | _ => .fail
theorem fields_ok : FnOK Tryd.prog 29 fieldsAV := by
  intro args v hv
  unfold fieldsAV at hv
  split at hv
  case h_2 => exact (run_fail hv).elim
  rename_i s f
  split at hv
  case isFalse => exact (run_fail hv).elim
  rename_i hf
  subst hf
  obtain ⟨h1, hv⟩ := run_ite_fail hv
  simp only [decide_eq_true_eq] at h1
  cases run_ret hv
  refine fn_texts (by kernel_rfl) fun r w us hl => ?_
  simp only [LRel] at hl
  obtain ⟨u1, us1, rfl, k1, u2, us2, rfl, k2, rfl⟩ := hl
  simp only [VRel, LRel] at k1 k2
  obtain ⟨x1, x2, rfl, rfl, rfl⟩ := k2
  subst k1
  refine (Tryd.strings_FieldsFunc 28 #[] (enters_of Tryd.func28 (by kernel_rfl) rfl) blankN s w h1 (fun W x _ => blank_gives W x)).mono ?_
  rintro e w' ⟨A, rfl, hA, ho, hb⟩
  exact ⟨A, rfl, hA, ho.cells rfl, hb⟩
end Go.Proofs.Pen

namespace Go.Proofs.Pen
open Go Go.Proofs
abbrev TI : Ty := (.int .i64)
theorem mixed : Tryd.prog.follows .mixedOrders = true := by kernel_rfl
noncomputable def Xs : Nat → List AV → T AV := ext (ext (ext (ext (ext (ext noQ 21 trimAV) 22 cutPrefixAV) 24 repeatAV) 47 indexAV1) 53 countAV1) 29 fieldsAV
theorem Xok : QuietOK Tryd.prog Xs := quiet_ext (quiet_ext (quiet_ext (quiet_ext (quiet_ext (quiet_ext (quiet_none _) trim_ok) cutPrefix_ok) repeat_ok) index_ok) count_ok) fields_ok
end Go.Proofs.Pen

namespace Go.Proofs.Pen
open Go Go.Proofs
def lex_digits.L0 : List (Nat × Lay) := [(0, .val TI), (1, .val TI), (5, .row (.int .u8))]
noncomputable def lex_digits.t0 (x : Int × Int × List Int × Unit) : T (Ex × Int × Int × List Int × Unit) := T.ite (decide (x.1 > (0 : Int)) || decide ((↑x.2.2.1.length : Int) < x.2.1)) (T.ite (decide ((x.2.2.1.length + (1 : Nat)) * nat_lit 1 ≤ most)) (T.ret (Ex.normal, W (Int.tdiv x.1 (10 : Int)), x.2.1, List.take (x.2.2.1.length + (1 : Nat)) (List.take x.2.2.1.length x.2.2.1 ++ [IntKind.u8.wrap (W ((48 : Int) + Int.tmod x.1 (10 : Int)))]), ())) T.fail) (T.ret (Ex.exit (0 : Nat), x.1, x.2.1, List.take x.2.2.1.length x.2.2.1, ()))
noncomputable def lex_digits.l0 (x : Int × Int × List Int × Unit) : Option (Ex × Int × Int × List Int × Unit) := (iterT lex_digits.t0 rounds x).run
theorem lex_digits.k0 : bodies 0 (lp Tryd.f20 []) = [.loop (loopIn 0 (lp Tryd.f20 []))] ∧ WP Tryd.prog 0 (.block 0 (.loop (loopIn 0 (lp Tryd.f20 [])))) (loopS lex_digits.L0 52 0 [.exit 0] lex_digits.l0) :=
  loop_tree (L := lex_digits.L0) (F := ({ quiet := Xs, deep := noDeep } : Fns)) (D := D0) (tab := []) (t := lex_digits.t0) mixed Xok (deep_none _) (fun _ => rfl) (by kernel_rfl) (by kernel_rfl) trivial (fun x => by kernel_rfl)
def lex_digits.L2 : List (Nat × Lay) := [(5, .row (.int .u8)), (6, .val TI), (7, .val TI)]
noncomputable def lex_digits.t2 (x : List Int × Int × Int × Unit) : T (Ex × List Int × Int × Int × Unit) := T.ite (decide (x.2.1 < x.2.2.1)) (T.ite (decide ((0 : Int) ≤ x.2.2.1) && decide (x.2.2.1 < (↑x.1.length : Int))) (T.opt x.1[(0 : Nat) + Int.toNat x.2.2.1]? fun y => T.ite (decide ((0 : Int) ≤ x.2.1) && decide (x.2.1 < (↑x.1.length : Int))) (T.opt x.1[(0 : Nat) + Int.toNat x.2.1]? fun y_1 => T.ite (decide ((0 : Int) ≤ x.2.1) && decide (x.2.1 < (↑x.1.length : Int))) (T.opt x.1[(0 : Nat) + Int.toNat x.2.1]? fun y_2 => T.ite (decide ((0 : Int) ≤ x.2.2.1) && decide (x.2.2.1 < (↑x.1.length : Int))) (T.opt (x.1.set ((0 : Nat) + Int.toNat x.2.1) y)[(0 : Nat) + Int.toNat x.2.2.1]? fun y_3 => T.ret (Ex.normal, List.take x.1.length ((x.1.set ((0 : Nat) + Int.toNat x.2.1) y).set ((0 : Nat) + Int.toNat x.2.2.1) y_1), W (x.2.1 + (1 : Int)), W (x.2.2.1 - (1 : Int)), ())) T.fail) T.fail) T.fail) T.fail) (T.ret (Ex.exit (2 : Nat), List.take x.1.length x.1, x.2.1, x.2.2.1, ()))
noncomputable def lex_digits.l2 (x : List Int × Int × Int × Unit) : Option (Ex × List Int × Int × Int × Unit) := (iterT lex_digits.t2 rounds x).run
theorem lex_digits.k2 : bodies 2 (lp Tryd.f20 []) = [.loop (loopIn 2 (lp Tryd.f20 []))] ∧ WP Tryd.prog 0 (.block 2 (.loop (loopIn 2 (lp Tryd.f20 [])))) (loopS lex_digits.L2 52 2 [.exit 2] lex_digits.l2) :=
  loop_tree (L := lex_digits.L2) (F := ({ quiet := Xs, deep := noDeep } : Fns)) (D := D0) (tab := []) (t := lex_digits.t2) mixed Xok (deep_none _) (fun _ => rfl) (by kernel_rfl) (by kernel_rfl) trivial (fun x => by kernel_rfl)
noncomputable def lex_digits.t (x : Int × Int) : T (ByteArray) := T.ite (decide ((0 : Int) ≤ (0 : Int)) && decide ((0 : Int) ≤ (16 : Int)) && decide ((16 : Int) * (↑(nat_lit 1) : Int) ≤ (↑most : Int)) && decide ((16 : Int) ≤ (↑most : Int))) (T.opt (lex_digits.l0 (x.1, x.2, List.take (Int.toNat (0 : Int)) (List.replicate (Int.toNat (16 : Int)) (0 : Int)), ())) fun y => T.ite (exEq y.1 (Ex.exit (0 : Nat))) (T.opt (lex_digits.l2 (List.take y.2.2.2.1.length y.2.2.2.1, (0 : Int), W ((↑y.2.2.2.1.length : Int) - (1 : Int)), ())) fun y => T.ite (exEq y.1 (Ex.exit (2 : Nat))) (T.ret (ofBytes (List.take y.2.1.length y.2.1))) T.fail) T.fail) T.fail
noncomputable def lex_digits (x : Int × Int) : Option (ByteArray) := (lex_digits.t x).run
noncomputable def lex_digits.q : List AV → T AV := entry [TI, TI] (outR [.str]) fun x => .opt (lex_digits x) .ret
theorem lex_digits.ok : FnOK Tryd.prog 20 lex_digits.q :=
  entry_call (ps := [TI, TI]) (rs := [.str]) (F := ({ quiet := Xs, deep := noDeep } : Fns)) (D := D0) (S := tabS [(0, loopS lex_digits.L0 52 0 [.exit 0] lex_digits.l0), (2, loopS lex_digits.L2 52 2 [.exit 2] lex_digits.l2)]) (t := lex_digits.t) mixed Xok (deep_none _) Tryd.func20 (by kernel_rfl) (sok_fn ⟨lex_digits.k0, lex_digits.k2, trivial⟩) (by kernel_rfl) (fun x => by kernel_rfl)
end Go.Proofs.Pen

namespace Go.Proofs.Pen
open Go Go.Proofs
noncomputable def dig0.t (x : Int) : T (ByteArray) := T.ite (decide (x < (10 : Int))) (T.ite (decide ((0 : Int) ≤ x) && decide (x ≤ W (x + (1 : Int))) && decide (W (x + (1 : Int)) ≤ (↑(ByteArray.mk #[(48 : UInt8), (49 : UInt8), (50 : UInt8), (51 : UInt8), (52 : UInt8), (53 : UInt8), (54 : UInt8), (55 : UInt8), (56 : UInt8), (57 : UInt8)]).size : Int))) (T.ret ((ByteArray.mk #[(48 : UInt8), (49 : UInt8), (50 : UInt8), (51 : UInt8), (52 : UInt8), (53 : UInt8), (54 : UInt8), (55 : UInt8), (56 : UInt8), (57 : UInt8)]).extract (Int.toNat x) (W (x + (1 : Int))).toNat)) T.fail) T.fail
noncomputable def dig0 (x : Int) : Option (ByteArray) := (dig0.t x).run
noncomputable def dig0.q : List AV → T AV := entry [TI] (outR [.str]) fun x => .opt (dig0 x) .ret
theorem dig0.ok : FnOK Tryd.prog 26 dig0.q :=
  entry_call (ps := [TI]) (rs := [.str]) (F := ({ quiet := Xs, deep := noDeep } : Fns)) (D := D0) (S := tabS []) (t := dig0.t) mixed Xok (deep_none _) Tryd.func26 (by kernel_rfl) (sok_fn trivial) (by kernel_rfl) (fun x => by kernel_rfl)
end Go.Proofs.Pen

namespace Go.Proofs.Pen
open Go Go.Proofs
noncomputable def dig1.t (x : Int) : T (ByteArray) := T.ite (decide (x < (10 : Int))) (T.ite (decide ((0 : Int) ≤ x) && decide (x ≤ W (x + (1 : Int))) && decide (W (x + (1 : Int)) ≤ (↑(ByteArray.mk #[(48 : UInt8), (49 : UInt8), (50 : UInt8), (51 : UInt8), (52 : UInt8), (53 : UInt8), (54 : UInt8), (55 : UInt8), (56 : UInt8), (57 : UInt8)]).size : Int))) (T.ret ((ByteArray.mk #[(48 : UInt8), (49 : UInt8), (50 : UInt8), (51 : UInt8), (52 : UInt8), (53 : UInt8), (54 : UInt8), (55 : UInt8), (56 : UInt8), (57 : UInt8)]).extract (Int.toNat x) (W (x + (1 : Int))).toNat)) T.fail) (T.opt (dig0 (W (Int.tdiv x (10 : Int)))) fun y => T.opt (dig0 (Int.tmod x (10 : Int))) fun y_1 => T.ite (decide ((↑(y.size + y_1.size) : Int) > IntKind.i64.max)) T.fail (T.ret (y ++ y_1)))
noncomputable def dig1 (x : Int) : Option (ByteArray) := (dig1.t x).run
noncomputable def dig1.q : List AV → T AV := entry [TI] (outR [.str]) fun x => .opt (dig1 x) .ret
theorem dig1.ok : FnOK Tryd.prog 26 dig1.q :=
  entry_call (ps := [TI]) (rs := [.str]) (F := ({ quiet := (ext Xs 26 dig0.q), deep := noDeep } : Fns)) (D := D0) (S := tabS []) (t := dig1.t) mixed (quiet_ext Xok dig0.ok) (deep_none _) Tryd.func26 (by kernel_rfl) (sok_fn trivial) (by kernel_rfl) (fun x => by kernel_rfl)
end Go.Proofs.Pen

namespace Go.Proofs.Pen
open Go Go.Proofs
noncomputable def dig2.t (x : Int) : T (ByteArray) := T.ite (decide (x < (10 : Int))) (T.ite (decide ((0 : Int) ≤ x) && decide (x ≤ W (x + (1 : Int))) && decide (W (x + (1 : Int)) ≤ (↑(ByteArray.mk #[(48 : UInt8), (49 : UInt8), (50 : UInt8), (51 : UInt8), (52 : UInt8), (53 : UInt8), (54 : UInt8), (55 : UInt8), (56 : UInt8), (57 : UInt8)]).size : Int))) (T.ret ((ByteArray.mk #[(48 : UInt8), (49 : UInt8), (50 : UInt8), (51 : UInt8), (52 : UInt8), (53 : UInt8), (54 : UInt8), (55 : UInt8), (56 : UInt8), (57 : UInt8)]).extract (Int.toNat x) (W (x + (1 : Int))).toNat)) T.fail) (T.opt (dig1 (W (Int.tdiv x (10 : Int)))) fun y => T.opt (dig1 (Int.tmod x (10 : Int))) fun y_1 => T.ite (decide ((↑(y.size + y_1.size) : Int) > IntKind.i64.max)) T.fail (T.ret (y ++ y_1)))
noncomputable def dig2 (x : Int) : Option (ByteArray) := (dig2.t x).run
noncomputable def dig2.q : List AV → T AV := entry [TI] (outR [.str]) fun x => .opt (dig2 x) .ret
theorem dig2.ok : FnOK Tryd.prog 26 dig2.q :=
  entry_call (ps := [TI]) (rs := [.str]) (F := ({ quiet := (ext Xs 26 dig1.q), deep := noDeep } : Fns)) (D := D0) (S := tabS []) (t := dig2.t) mixed (quiet_ext Xok dig1.ok) (deep_none _) Tryd.func26 (by kernel_rfl) (sok_fn trivial) (by kernel_rfl) (fun x => by kernel_rfl)
end Go.Proofs.Pen

namespace Go.Proofs.Pen
open Go Go.Proofs
noncomputable def dig3.t (x : Int) : T (ByteArray) := T.ite (decide (x < (10 : Int))) (T.ite (decide ((0 : Int) ≤ x) && decide (x ≤ W (x + (1 : Int))) && decide (W (x + (1 : Int)) ≤ (↑(ByteArray.mk #[(48 : UInt8), (49 : UInt8), (50 : UInt8), (51 : UInt8), (52 : UInt8), (53 : UInt8), (54 : UInt8), (55 : UInt8), (56 : UInt8), (57 : UInt8)]).size : Int))) (T.ret ((ByteArray.mk #[(48 : UInt8), (49 : UInt8), (50 : UInt8), (51 : UInt8), (52 : UInt8), (53 : UInt8), (54 : UInt8), (55 : UInt8), (56 : UInt8), (57 : UInt8)]).extract (Int.toNat x) (W (x + (1 : Int))).toNat)) T.fail) (T.opt (dig2 (W (Int.tdiv x (10 : Int)))) fun y => T.opt (dig2 (Int.tmod x (10 : Int))) fun y_1 => T.ite (decide ((↑(y.size + y_1.size) : Int) > IntKind.i64.max)) T.fail (T.ret (y ++ y_1)))
noncomputable def dig3 (x : Int) : Option (ByteArray) := (dig3.t x).run
noncomputable def dig3.q : List AV → T AV := entry [TI] (outR [.str]) fun x => .opt (dig3 x) .ret
theorem dig3.ok : FnOK Tryd.prog 26 dig3.q :=
  entry_call (ps := [TI]) (rs := [.str]) (F := ({ quiet := (ext Xs 26 dig2.q), deep := noDeep } : Fns)) (D := D0) (S := tabS []) (t := dig3.t) mixed (quiet_ext Xok dig2.ok) (deep_none _) Tryd.func26 (by kernel_rfl) (sok_fn trivial) (by kernel_rfl) (fun x => by kernel_rfl)
end Go.Proofs.Pen

namespace Go.Proofs.Pen
open Go Go.Proofs
noncomputable def dig4.t (x : Int) : T (ByteArray) := T.ite (decide (x < (10 : Int))) (T.ite (decide ((0 : Int) ≤ x) && decide (x ≤ W (x + (1 : Int))) && decide (W (x + (1 : Int)) ≤ (↑(ByteArray.mk #[(48 : UInt8), (49 : UInt8), (50 : UInt8), (51 : UInt8), (52 : UInt8), (53 : UInt8), (54 : UInt8), (55 : UInt8), (56 : UInt8), (57 : UInt8)]).size : Int))) (T.ret ((ByteArray.mk #[(48 : UInt8), (49 : UInt8), (50 : UInt8), (51 : UInt8), (52 : UInt8), (53 : UInt8), (54 : UInt8), (55 : UInt8), (56 : UInt8), (57 : UInt8)]).extract (Int.toNat x) (W (x + (1 : Int))).toNat)) T.fail) (T.opt (dig3 (W (Int.tdiv x (10 : Int)))) fun y => T.opt (dig3 (Int.tmod x (10 : Int))) fun y_1 => T.ite (decide ((↑(y.size + y_1.size) : Int) > IntKind.i64.max)) T.fail (T.ret (y ++ y_1)))
noncomputable def dig4 (x : Int) : Option (ByteArray) := (dig4.t x).run
noncomputable def dig4.q : List AV → T AV := entry [TI] (outR [.str]) fun x => .opt (dig4 x) .ret
theorem dig4.ok : FnOK Tryd.prog 26 dig4.q :=
  entry_call (ps := [TI]) (rs := [.str]) (F := ({ quiet := (ext Xs 26 dig3.q), deep := noDeep } : Fns)) (D := D0) (S := tabS []) (t := dig4.t) mixed (quiet_ext Xok dig3.ok) (deep_none _) Tryd.func26 (by kernel_rfl) (sok_fn trivial) (by kernel_rfl) (fun x => by kernel_rfl)
end Go.Proofs.Pen

namespace Go.Proofs.Pen
open Go Go.Proofs
noncomputable def dig5.t (x : Int) : T (ByteArray) := T.ite (decide (x < (10 : Int))) (T.ite (decide ((0 : Int) ≤ x) && decide (x ≤ W (x + (1 : Int))) && decide (W (x + (1 : Int)) ≤ (↑(ByteArray.mk #[(48 : UInt8), (49 : UInt8), (50 : UInt8), (51 : UInt8), (52 : UInt8), (53 : UInt8), (54 : UInt8), (55 : UInt8), (56 : UInt8), (57 : UInt8)]).size : Int))) (T.ret ((ByteArray.mk #[(48 : UInt8), (49 : UInt8), (50 : UInt8), (51 : UInt8), (52 : UInt8), (53 : UInt8), (54 : UInt8), (55 : UInt8), (56 : UInt8), (57 : UInt8)]).extract (Int.toNat x) (W (x + (1 : Int))).toNat)) T.fail) (T.opt (dig4 (W (Int.tdiv x (10 : Int)))) fun y => T.opt (dig4 (Int.tmod x (10 : Int))) fun y_1 => T.ite (decide ((↑(y.size + y_1.size) : Int) > IntKind.i64.max)) T.fail (T.ret (y ++ y_1)))
noncomputable def dig5 (x : Int) : Option (ByteArray) := (dig5.t x).run
noncomputable def dig5.q : List AV → T AV := entry [TI] (outR [.str]) fun x => .opt (dig5 x) .ret
theorem dig5.ok : FnOK Tryd.prog 26 dig5.q :=
  entry_call (ps := [TI]) (rs := [.str]) (F := ({ quiet := (ext Xs 26 dig4.q), deep := noDeep } : Fns)) (D := D0) (S := tabS []) (t := dig5.t) mixed (quiet_ext Xok dig4.ok) (deep_none _) Tryd.func26 (by kernel_rfl) (sok_fn trivial) (by kernel_rfl) (fun x => by kernel_rfl)
end Go.Proofs.Pen

namespace Go.Proofs.Pen
open Go Go.Proofs
noncomputable def dig6.t (x : Int) : T (ByteArray) := T.ite (decide (x < (10 : Int))) (T.ite (decide ((0 : Int) ≤ x) && decide (x ≤ W (x + (1 : Int))) && decide (W (x + (1 : Int)) ≤ (↑(ByteArray.mk #[(48 : UInt8), (49 : UInt8), (50 : UInt8), (51 : UInt8), (52 : UInt8), (53 : UInt8), (54 : UInt8), (55 : UInt8), (56 : UInt8), (57 : UInt8)]).size : Int))) (T.ret ((ByteArray.mk #[(48 : UInt8), (49 : UInt8), (50 : UInt8), (51 : UInt8), (52 : UInt8), (53 : UInt8), (54 : UInt8), (55 : UInt8), (56 : UInt8), (57 : UInt8)]).extract (Int.toNat x) (W (x + (1 : Int))).toNat)) T.fail) (T.opt (dig5 (W (Int.tdiv x (10 : Int)))) fun y => T.opt (dig5 (Int.tmod x (10 : Int))) fun y_1 => T.ite (decide ((↑(y.size + y_1.size) : Int) > IntKind.i64.max)) T.fail (T.ret (y ++ y_1)))
noncomputable def dig6 (x : Int) : Option (ByteArray) := (dig6.t x).run
noncomputable def dig6.q : List AV → T AV := entry [TI] (outR [.str]) fun x => .opt (dig6 x) .ret
theorem dig6.ok : FnOK Tryd.prog 26 dig6.q :=
  entry_call (ps := [TI]) (rs := [.str]) (F := ({ quiet := (ext Xs 26 dig5.q), deep := noDeep } : Fns)) (D := D0) (S := tabS []) (t := dig6.t) mixed (quiet_ext Xok dig5.ok) (deep_none _) Tryd.func26 (by kernel_rfl) (sok_fn trivial) (by kernel_rfl) (fun x => by kernel_rfl)
end Go.Proofs.Pen

namespace Go.Proofs.Pen
open Go Go.Proofs
noncomputable def dig7.t (x : Int) : T (ByteArray) := T.ite (decide (x < (10 : Int))) (T.ite (decide ((0 : Int) ≤ x) && decide (x ≤ W (x + (1 : Int))) && decide (W (x + (1 : Int)) ≤ (↑(ByteArray.mk #[(48 : UInt8), (49 : UInt8), (50 : UInt8), (51 : UInt8), (52 : UInt8), (53 : UInt8), (54 : UInt8), (55 : UInt8), (56 : UInt8), (57 : UInt8)]).size : Int))) (T.ret ((ByteArray.mk #[(48 : UInt8), (49 : UInt8), (50 : UInt8), (51 : UInt8), (52 : UInt8), (53 : UInt8), (54 : UInt8), (55 : UInt8), (56 : UInt8), (57 : UInt8)]).extract (Int.toNat x) (W (x + (1 : Int))).toNat)) T.fail) (T.opt (dig6 (W (Int.tdiv x (10 : Int)))) fun y => T.opt (dig6 (Int.tmod x (10 : Int))) fun y_1 => T.ite (decide ((↑(y.size + y_1.size) : Int) > IntKind.i64.max)) T.fail (T.ret (y ++ y_1)))
noncomputable def dig7 (x : Int) : Option (ByteArray) := (dig7.t x).run
noncomputable def dig7.q : List AV → T AV := entry [TI] (outR [.str]) fun x => .opt (dig7 x) .ret
theorem dig7.ok : FnOK Tryd.prog 26 dig7.q :=
  entry_call (ps := [TI]) (rs := [.str]) (F := ({ quiet := (ext Xs 26 dig6.q), deep := noDeep } : Fns)) (D := D0) (S := tabS []) (t := dig7.t) mixed (quiet_ext Xok dig6.ok) (deep_none _) Tryd.func26 (by kernel_rfl) (sok_fn trivial) (by kernel_rfl) (fun x => by kernel_rfl)
end Go.Proofs.Pen

namespace Go.Proofs.Pen
open Go Go.Proofs
noncomputable def dig8.t (x : Int) : T (ByteArray) := T.ite (decide (x < (10 : Int))) (T.ite (decide ((0 : Int) ≤ x) && decide (x ≤ W (x + (1 : Int))) && decide (W (x + (1 : Int)) ≤ (↑(ByteArray.mk #[(48 : UInt8), (49 : UInt8), (50 : UInt8), (51 : UInt8), (52 : UInt8), (53 : UInt8), (54 : UInt8), (55 : UInt8), (56 : UInt8), (57 : UInt8)]).size : Int))) (T.ret ((ByteArray.mk #[(48 : UInt8), (49 : UInt8), (50 : UInt8), (51 : UInt8), (52 : UInt8), (53 : UInt8), (54 : UInt8), (55 : UInt8), (56 : UInt8), (57 : UInt8)]).extract (Int.toNat x) (W (x + (1 : Int))).toNat)) T.fail) (T.opt (dig7 (W (Int.tdiv x (10 : Int)))) fun y => T.opt (dig7 (Int.tmod x (10 : Int))) fun y_1 => T.ite (decide ((↑(y.size + y_1.size) : Int) > IntKind.i64.max)) T.fail (T.ret (y ++ y_1)))
noncomputable def dig8 (x : Int) : Option (ByteArray) := (dig8.t x).run
noncomputable def dig8.q : List AV → T AV := entry [TI] (outR [.str]) fun x => .opt (dig8 x) .ret
theorem dig8.ok : FnOK Tryd.prog 26 dig8.q :=
  entry_call (ps := [TI]) (rs := [.str]) (F := ({ quiet := (ext Xs 26 dig7.q), deep := noDeep } : Fns)) (D := D0) (S := tabS []) (t := dig8.t) mixed (quiet_ext Xok dig7.ok) (deep_none _) Tryd.func26 (by kernel_rfl) (sok_fn trivial) (by kernel_rfl) (fun x => by kernel_rfl)
end Go.Proofs.Pen

namespace Go.Proofs.Pen
open Go Go.Proofs
noncomputable def dig9.t (x : Int) : T (ByteArray) := T.ite (decide (x < (10 : Int))) (T.ite (decide ((0 : Int) ≤ x) && decide (x ≤ W (x + (1 : Int))) && decide (W (x + (1 : Int)) ≤ (↑(ByteArray.mk #[(48 : UInt8), (49 : UInt8), (50 : UInt8), (51 : UInt8), (52 : UInt8), (53 : UInt8), (54 : UInt8), (55 : UInt8), (56 : UInt8), (57 : UInt8)]).size : Int))) (T.ret ((ByteArray.mk #[(48 : UInt8), (49 : UInt8), (50 : UInt8), (51 : UInt8), (52 : UInt8), (53 : UInt8), (54 : UInt8), (55 : UInt8), (56 : UInt8), (57 : UInt8)]).extract (Int.toNat x) (W (x + (1 : Int))).toNat)) T.fail) (T.opt (dig8 (W (Int.tdiv x (10 : Int)))) fun y => T.opt (dig8 (Int.tmod x (10 : Int))) fun y_1 => T.ite (decide ((↑(y.size + y_1.size) : Int) > IntKind.i64.max)) T.fail (T.ret (y ++ y_1)))
noncomputable def dig9 (x : Int) : Option (ByteArray) := (dig9.t x).run
noncomputable def dig9.q : List AV → T AV := entry [TI] (outR [.str]) fun x => .opt (dig9 x) .ret
theorem dig9.ok : FnOK Tryd.prog 26 dig9.q :=
  entry_call (ps := [TI]) (rs := [.str]) (F := ({ quiet := (ext Xs 26 dig8.q), deep := noDeep } : Fns)) (D := D0) (S := tabS []) (t := dig9.t) mixed (quiet_ext Xok dig8.ok) (deep_none _) Tryd.func26 (by kernel_rfl) (sok_fn trivial) (by kernel_rfl) (fun x => by kernel_rfl)
end Go.Proofs.Pen

namespace Go.Proofs.Pen
open Go Go.Proofs

/-! ### Texts as lists of bytes -/
def B (l : List UInt8) : ByteArray := ⟨l.toArray⟩
theorem B_size (l : List UInt8) : (B l).size = l.length := by simp [B, ByteArray.size]
theorem B_app (l m : List UInt8) : B l ++ B m = B (l ++ m) := by
  apply ByteArray.ext
  simp [B]
theorem B_data (l : List UInt8) : (B l).data.toList = l := by simp [B]
theorem B_toList (l : List UInt8) : (B l).toList = l := by rw [ByteArray.toList_eq, B_data]
theorem B_self (s : ByteArray) : B s.data.toList = s := by simp [B]
theorem B_inj {l m : List UInt8} (h : B l = B m) : l = m := by rw [← B_data l, h, B_data]
theorem B_extract (l : List UInt8) (i j : Nat) : (B l).extract i j = B ((l.take j).drop i) := by
  apply ByteArray.ext
  simp [B, ByteArray.data_extract, List.drop_take]
theorem sget_B (l : List UInt8) (i : Nat) : sget (B l) (i : Int) = (l[i]?).map fun b => (b.toNat : Int) := by
  unfold sget
  rw [if_neg (by omega), Int.toNat_natCast]
  congr 1
  by_cases h : i < l.length
  · rw [getElem?_pos (B l) i (by rw [B_size]; exact h), List.getElem?_eq_getElem h]; simp [B, ByteArray.getElem_eq_getElem_data]
  · rw [getElem?_neg (B l) i (by rw [B_size]; exact h), List.getElem?_eq_none (by omega)]

def dg (d : Nat) : UInt8 := UInt8.ofNat (48 + d)
theorem dg_nat {d : Nat} (h : d < 10) : (dg d).toNat = 48 + d := by
  unfold dg
  rw [UInt8.toNat_ofNat']
  omega

/-- The digits of a number from the last on, at least so many; 'f': more than there are. -/
def rdig : Nat → Nat → Nat → List Nat
  | 0, _, _ => []
  | f + 1, n, k => if n = 0 ∧ k = 0 then [] else n % 10 :: rdig f (n / 10) (k - 1)

theorem rdig_nil (f : Nat) : rdig f 0 0 = [] := by cases f <;> simp [rdig]
theorem rdig_one {f n : Nat} (h : 0 < n) : rdig f n 0 = rdig f n 1 := by
  cases f with
  | zero => rfl
  | succ f => simp only [rdig]; rw [if_neg (by omega), if_neg (by omega)]
theorem rdig_lt : ∀ (f n k : Nat), ∀ d ∈ rdig f n k, d < 10
  | 0, _, _ => by simp [rdig]
  | f + 1, n, k => by
    simp only [rdig]
    split
    · simp
    · intro d hd
      rcases List.mem_cons.1 hd with rfl | h
      · omega
      · exact rdig_lt f _ _ d h
theorem rdig_len : ∀ (f n k : Nat), (rdig f n k).length ≤ f
  | 0, _, _ => by simp [rdig]
  | f + 1, n, k => by
    simp only [rdig]
    split
    · simp
    · have := rdig_len f (n / 10) (k - 1)
      simp only [List.length_cons]; omega
theorem rdig_pos (f n : Nat) : 0 < (rdig (f + 1) n 1).length := by
  simp only [rdig]; rw [if_neg (by omega)]; simp

theorem digits0 (L : Nat) : ∀ (f n : Nat) (b : List Int) (m : Nat), n < 10 ^ f → L - b.length ≤ f → b.length + f ≤ 30 → n < 2 ^ 62 → f < m →
    (iterT lex_digits.t0 m ((n : Int), (L : Int), b, ())).run = some (.exit 0, 0, (L : Int), b ++ (rdig f n (L - b.length)).map (fun d : Nat => (48 + (d : Int))), ())
  | f, n, b, 0, _, _, _, _, hm => absurd hm (Nat.not_lt_zero _)
  | 0, n, b, m + 1, hn, hk, hl, hb, hm => by
    have hn0 : n = 0 := by simpa using hn
    subst hn0
    have e : (lex_digits.t0 (((0 : Nat) : Int), (L : Int), b, ())).run = some (.exit 0, 0, (L : Int), b, ()) := by
      unfold lex_digits.t0
      rw [tr_ite, if_neg (by simp; omega), tr_ret]
      simp
    rw [iter_step e]
    simp [rdig]
  | f + 1, n, b, m + 1, hn, hk, hl, hb, hm => by
    by_cases hc : n = 0 ∧ L - b.length = 0
    · obtain ⟨rfl, h2⟩ := hc
      have e : (lex_digits.t0 (((0 : Nat) : Int), (L : Int), b, ())).run = some (.exit 0, 0, (L : Int), b, ()) := by
        unfold lex_digits.t0
        rw [tr_ite, if_neg (by simp; omega), tr_ret]
        simp
      rw [iter_step e, h2]
      simp [rdig]
    · have e : (lex_digits.t0 ((n : Int), (L : Int), b, ())).run = some (.normal, ((n / 10 : Nat) : Int), (L : Int), b ++ [(48 + (n % 10 : Nat) : Int)], ()) := by
        unfold lex_digits.t0
        dsimp only
        rw [tr_ite, if_pos (by simp; omega), tr_ite, if_pos (by rw [decide_eq_true_eq]; exact room (by omega) (by omega)), tr_ret]
        have e1 : W ((n : Int).tdiv 10) = ((n / 10 : Nat) : Int) := by
          rw [show (n : Int).tdiv 10 = ((n / 10 : Nat) : Int) by rw [Int.tdiv_eq_ediv_of_nonneg (by omega)]; omega]
          exact W_id (by omega) (by omega)
        have e2 : IntKind.u8.wrap (W (48 + (n : Int).tmod 10)) = (48 + (n % 10 : Nat) : Int) := by
          rw [show (n : Int).tmod 10 = ((n % 10 : Nat) : Int) by rw [Int.tmod_eq_emod_of_nonneg (by omega)]; omega]
          rw [W_id (by omega) (by omega)]
          have : (48 + ((n % 10 : Nat) : Int)) = ((48 + n % 10 : Nat) : Int) := by omega
          rw [this]
          have h : 48 + n % 10 < 256 := by omega
          have hw : ∀ z : Int, 0 ≤ z → z < 256 → IntKind.u8.wrap z = z := fun z h0 h1 => by
            show z % 256 = z
            omega
          exact hw _ (by omega) (by omega)
        rw [e1, e2, take_all]
      rw [iter_step e]
      have ih := digits0 L f (n / 10) (b ++ [(48 + (n % 10 : Nat) : Int)]) m (by rw [Nat.div_lt_iff_lt_mul (by omega)]; rw [Nat.pow_succ] at hn; exact hn) (by simp; omega) (by simp; omega) (by omega) (by omega)
      show (iterT lex_digits.t0 m (((n / 10 : Nat) : Int), (L : Int), b ++ [(48 + (n % 10 : Nat) : Int)], ())).run = _
      rw [ih]
      simp only [rdig, if_neg hc, List.length_append, List.length_cons, List.length_nil, List.map_cons, List.append_assoc, List.cons_append, List.nil_append]
      rfl
end Go.Proofs.Pen

namespace Go.Proofs.Pen
open Go Go.Proofs

theorem tr_yes {α : Type} {b : Bool} {x y : T α} (h : b = true) : (T.ite b x y).run = x.run := by rw [tr_ite, if_pos h]
theorem tr_no {α : Type} {b : Bool} {x y : T α} (h : b = false) : (T.ite b x y).run = y.run := by rw [tr_ite, h, if_neg (by simp)]

/-! ### Turning round in place -/
theorem swap_step (pre mid post : List Int) (x y : Int) : (lex_digits.t2 (pre ++ (x :: (mid ++ [y])) ++ post, (pre.length : Int), ((pre.length + mid.length + 1 : Nat) : Int), ())).run =
    some (.normal, (pre ++ [y]) ++ mid ++ ([x] ++ post), W ((pre.length : Int) + 1), W (((pre.length + mid.length + 1 : Nat) : Int) - 1), ()) := by
  have hl : (pre ++ (x :: (mid ++ [y])) ++ post).length = pre.length + mid.length + 2 + post.length := by simp; omega
  have h1 : (pre ++ (x :: (mid ++ [y])) ++ post)[pre.length]? = some x := by simp
  have h2 : (pre ++ (x :: (mid ++ [y])) ++ post)[pre.length + mid.length + 1]? = some y := by
    rw [show pre ++ (x :: (mid ++ [y])) ++ post = (pre ++ (x :: mid)) ++ (y :: post) by simp]
    rw [List.getElem?_append_right (by simp; omega)]
    simp; rw [show pre.length + mid.length + 1 - (pre.length + (mid.length + 1)) = 0 by omega]; rfl
  have h3 : (pre ++ (x :: (mid ++ [y])) ++ post).set pre.length y = (pre ++ [y]) ++ mid ++ (y :: post) := by
    rw [List.append_assoc, List.set_append_right _ _ (by omega), Nat.sub_self]; simp
  have h4 : ((pre ++ [y]) ++ mid ++ (y :: post))[pre.length + mid.length + 1]? = some y := by
    rw [List.getElem?_append_right (by simp; omega)]
    simp; rw [show pre.length + mid.length + 1 - (pre.length + (mid.length + 1)) = 0 by omega]; rfl
  have h5 : ((pre ++ [y]) ++ mid ++ (y :: post)).set (pre.length + mid.length + 1) x = (pre ++ [y]) ++ mid ++ ([x] ++ post) := by
    rw [List.set_append_right _ _ (by simp; omega)]
    rw [show pre.length + mid.length + 1 - (pre ++ [y] ++ mid).length = 0 by simp; omega]; rfl
  unfold lex_digits.t2
  dsimp only
  generalize hb : pre ++ (x :: (mid ++ [y])) ++ post = b at *
  have ha : (decide ((0 : Int) ≤ (pre.length : Int)) && decide ((pre.length : Int) < (b.length : Int))) = true := by simp; omega
  have hc : (decide ((0 : Int) ≤ ((pre.length + mid.length + 1 : Nat) : Int)) && decide (((pre.length + mid.length + 1 : Nat) : Int) < (b.length : Int))) = true := by
    rw [Bool.and_eq_true, decide_eq_true_eq, decide_eq_true_eq]; omega
  rw [tr_yes (by rw [decide_eq_true_eq]; omega), tr_yes hc, Int.toNat_natCast, Nat.zero_add, h2, tr_opt, Option.bind_some, tr_yes ha, Int.toNat_natCast, Nat.zero_add, h1, tr_opt, Option.bind_some, tr_yes ha, tr_opt, Option.bind_some, tr_yes hc, h3, h4, tr_opt, Option.bind_some, tr_ret, h5]
  rw [List.take_of_length_le (by rw [hl]; simp; omega)]

theorem swap_end (b : List Int) (i k : Int) (h : k ≤ i) : (lex_digits.t2 (b, i, k, ())).run = some (.exit 2, b, i, k, ()) := by
  unfold lex_digits.t2
  dsimp only
  rw [tr_no (by simp; omega), tr_ret, List.take_length]

theorem swap_all : ∀ (c : Nat) (mid pre post : List Int) (m : Nat), mid.length ≤ c → pre.length + mid.length ≤ 1000 → c < m →
    ∃ i k, (iterT lex_digits.t2 m (pre ++ mid ++ post, (pre.length : Int), (pre.length : Int) + mid.length - 1, ())).run = some (.exit 2, pre ++ mid.reverse ++ post, i, k, ())
  | c, mid, pre, post, 0, _, _, hm => absurd hm (Nat.not_lt_zero _)
  | c, [], pre, post, m + 1, _, _, _ => by
    refine ⟨(pre.length : Int), (pre.length : Int) + ([] : List Int).length - 1, ?_⟩
    rw [iter_step (swap_end _ _ _ (by simp; omega))]
    rfl
  | c, [x], pre, post, m + 1, _, _, _ => by
    refine ⟨(pre.length : Int), (pre.length : Int) + [x].length - 1, ?_⟩
    rw [iter_step (swap_end _ _ _ (by simp))]
    rfl
  | 0, x :: z :: l, pre, post, m + 1, h, _, _ => by simp at h
  | c + 1, x :: z :: l, pre, post, m + 1, h, hb, hm => by
    obtain ⟨mid, y, e⟩ : ∃ mid y, z :: l = mid ++ [y] := ⟨(z :: l).dropLast, (z :: l).getLast (by simp), (List.dropLast_concat_getLast (by simp)).symm⟩
    have hl : l.length + 1 = mid.length + 1 := by have := congrArg List.length e; simpa using this
    obtain ⟨i, k, ih⟩ := swap_all c mid (pre ++ [y]) ([x] ++ post) m (by simp at h; omega) (by simp at hb ⊢; omega) (by omega)
    refine ⟨i, k, ?_⟩
    rw [e]
    have hs := swap_step pre mid post x y
    rw [W_id (by omega) (by simp at hb; omega), W_id (by omega) (by simp at hb; omega)] at hs
    have e0 : ((pre.length : Int) + ((x :: (mid ++ [y])).length : Nat) - 1) = ((pre.length + mid.length + 1 : Nat) : Int) := by simp; omega
    rw [e0, iter_step hs]
    have e1 : (((pre ++ [y]).length : Nat) : Int) = (pre.length : Int) + 1 := by simp
    have e2 : (((pre ++ [y]).length : Nat) : Int) + (mid.length : Int) - 1 = ((pre.length + mid.length + 1 : Nat) : Int) - 1 := by simp; omega
    rw [e2, e1] at ih
    show (iterT lex_digits.t2 m _).run = _
    rw [ih]
    simp

/-- The bytes of digits. -/
theorem ofBytes_dg (l : List Nat) (h : ∀ d ∈ l, d < 10) : ofBytes (l.map fun d : Nat => (48 + (d : Int))) = B (l.map dg) := by
  unfold ofBytes B
  rw [List.map_map]
  congr 2

theorem digits_eq (f n L : Nat) (hf : f ≤ 20) (hn : n < 10 ^ f) (hL : L ≤ f) (hb : n < 2 ^ 62) : lex_digits ((n : Int), (L : Int)) = some (B ((rdig f n L).reverse.map dg)) := by
  unfold lex_digits lex_digits.t
  dsimp only
  have h0 := digits0 L f n [] rounds hn (by simpa using hL) (by simp; omega) hb (rounds_gt (by omega))
  rw [List.nil_append] at h0
  have ht : List.take (Int.toNat 0) (List.replicate (Int.toNat 16) (0 : Int)) = [] := rfl
  rw [tr_yes (by decide), ht, tr_opt]
  unfold lex_digits.l0
  rw [h0, Option.bind_some]
  dsimp only
  rw [tr_yes (by decide), tr_opt, List.take_length]
  unfold lex_digits.l2
  generalize hr : (rdig f n (L - ([] : List Int).length)).map (fun d : Nat => (48 + (d : Int))) = r
  have hrl : r.length ≤ 20 := by rw [← hr, List.length_map]; exact Nat.le_trans (rdig_len _ _ _) hf
  obtain ⟨i, k, h2⟩ := swap_all r.length r [] [] rounds (Nat.le_refl _) (by simp; omega) (rounds_gt (by omega))
  rw [List.nil_append, List.append_nil, List.nil_append, List.append_nil] at h2
  have e : W ((r.length : Int) - 1) = ((([] : List Int).length : Nat) : Int) + (r.length : Int) - 1 := by rw [W_id (by omega) (by omega)]; simp
  rw [e]
  have h2' : (iterT lex_digits.t2 rounds (r, (0 : Int), ((([] : List Int).length : Nat) : Int) + (r.length : Int) - 1, ())).run = some (.exit 2, r.reverse, i, k, ()) := h2
  rw [h2', Option.bind_some]
  dsimp only
  rw [tr_yes (by decide), tr_ret, List.take_length]
  congr 1
  rw [← hr, ← List.map_reverse]
  exact ofBytes_dg _ fun d hd => rdig_lt _ _ _ d (List.mem_reverse.1 hd)
end Go.Proofs.Pen

namespace Go.Proofs.Pen
open Go Go.Proofs
def txt0.L0 : List (Nat × Lay) := [(3, .val .str), (4, .val TI)]
noncomputable def txt0.t0 (x : ByteArray × Int × Unit) : T (Ex × ByteArray × Int × Unit) := T.ite (decide (x.2.1 > (0 : Int))) (T.opt (dig9 (W ((W (x.2.1 * (10 : Int))).tdiv (1024 : Int)))) fun y => T.ite (decide ((↑(ByteArray.size x.1 + y.size) : Int) > IntKind.i64.max)) T.fail (T.ret (Ex.normal, x.1 ++ y, (W (x.2.1 * (10 : Int))).tmod (1024 : Int), ()))) (T.ret (Ex.exit (0 : Nat), x.1, x.2.1, ()))
noncomputable def txt0.l0 (x : ByteArray × Int × Unit) : Option (Ex × ByteArray × Int × Unit) := (iterT txt0.t0 rounds x).run
theorem txt0.k0 : bodies 0 (lp Tryd.f10 []) = [.loop (loopIn 0 (lp Tryd.f10 []))] ∧ WP Tryd.prog 0 (.block 0 (.loop (loopIn 0 (lp Tryd.f10 [])))) (loopS txt0.L0 33 0 [.exit 0] txt0.l0) :=
  loop_tree (L := txt0.L0) (F := ({ quiet := (ext (ext (ext (ext (ext (ext (ext (ext (ext (ext Xs 26 dig0.q) 26 dig1.q) 26 dig2.q) 26 dig3.q) 26 dig4.q) 26 dig5.q) 26 dig6.q) 26 dig7.q) 26 dig8.q) 26 dig9.q), deep := noDeep } : Fns)) (D := D0) (tab := []) (t := txt0.t0) mixed (quiet_ext (quiet_ext (quiet_ext (quiet_ext (quiet_ext (quiet_ext (quiet_ext (quiet_ext (quiet_ext (quiet_ext Xok dig0.ok) dig1.ok) dig2.ok) dig3.ok) dig4.ok) dig5.ok) dig6.ok) dig7.ok) dig8.ok) dig9.ok) (deep_none _) (fun _ => rfl) (by kernel_rfl) (by kernel_rfl) trivial (fun x => by kernel_rfl)
noncomputable def txt0.t (x : Int) : T (ByteArray) := T.ite (decide (x < (0 : Int))) T.fail (T.opt (dig9 (W (Int.tdiv x (1024 : Int)))) fun y => T.ite (Int.tmod x (1024 : Int) == (0 : Int)) (T.ret y) (T.ite (decide ((↑(y.size + (ByteArray.mk #[(46 : UInt8)]).size) : Int) > IntKind.i64.max)) T.fail (T.opt (txt0.l0 (y ++ (ByteArray.mk #[(46 : UInt8)]), Int.tmod x (1024 : Int), ())) fun y => T.ite (exEq y.1 (Ex.exit (0 : Nat))) (T.ret y.2.1) T.fail)))
noncomputable def txt0 (x : Int) : Option (ByteArray) := (txt0.t x).run
noncomputable def txt0.q : List AV → T AV := entry [TI] (outR [.str]) fun x => .opt (txt0 x) .ret
theorem txt0.ok : FnOK Tryd.prog 10 txt0.q :=
  entry_call (ps := [TI]) (rs := [.str]) (F := ({ quiet := (ext (ext (ext (ext (ext (ext (ext (ext (ext (ext Xs 26 dig0.q) 26 dig1.q) 26 dig2.q) 26 dig3.q) 26 dig4.q) 26 dig5.q) 26 dig6.q) 26 dig7.q) 26 dig8.q) 26 dig9.q), deep := noDeep } : Fns)) (D := D0) (S := tabS [(0, loopS txt0.L0 33 0 [.exit 0] txt0.l0)]) (t := txt0.t) mixed (quiet_ext (quiet_ext (quiet_ext (quiet_ext (quiet_ext (quiet_ext (quiet_ext (quiet_ext (quiet_ext (quiet_ext Xok dig0.ok) dig1.ok) dig2.ok) dig3.ok) dig4.ok) dig5.ok) dig6.ok) dig7.ok) dig8.ok) dig9.ok) (deep_none _) Tryd.func10 (by kernel_rfl) (sok_fn ⟨txt0.k0, trivial⟩) (by kernel_rfl) (fun x => by kernel_rfl)
end Go.Proofs.Pen

namespace Go.Proofs.Pen
open Go Go.Proofs
def txt1.L0 : List (Nat × Lay) := [(3, .val .str), (4, .val TI)]
noncomputable def txt1.t0 (x : ByteArray × Int × Unit) : T (Ex × ByteArray × Int × Unit) := T.ite (decide (x.2.1 > (0 : Int))) (T.opt (dig9 (W ((W (x.2.1 * (10 : Int))).tdiv (1024 : Int)))) fun y => T.ite (decide ((↑(ByteArray.size x.1 + y.size) : Int) > IntKind.i64.max)) T.fail (T.ret (Ex.normal, x.1 ++ y, (W (x.2.1 * (10 : Int))).tmod (1024 : Int), ()))) (T.ret (Ex.exit (0 : Nat), x.1, x.2.1, ()))
noncomputable def txt1.l0 (x : ByteArray × Int × Unit) : Option (Ex × ByteArray × Int × Unit) := (iterT txt1.t0 rounds x).run
theorem txt1.k0 : bodies 0 (lp Tryd.f10 []) = [.loop (loopIn 0 (lp Tryd.f10 []))] ∧ WP Tryd.prog 0 (.block 0 (.loop (loopIn 0 (lp Tryd.f10 [])))) (loopS txt1.L0 33 0 [.exit 0] txt1.l0) :=
  loop_tree (L := txt1.L0) (F := ({ quiet := (ext (ext (ext (ext (ext (ext (ext (ext (ext (ext (ext Xs 10 txt0.q) 26 dig0.q) 26 dig1.q) 26 dig2.q) 26 dig3.q) 26 dig4.q) 26 dig5.q) 26 dig6.q) 26 dig7.q) 26 dig8.q) 26 dig9.q), deep := noDeep } : Fns)) (D := D0) (tab := []) (t := txt1.t0) mixed (quiet_ext (quiet_ext (quiet_ext (quiet_ext (quiet_ext (quiet_ext (quiet_ext (quiet_ext (quiet_ext (quiet_ext (quiet_ext Xok txt0.ok) dig0.ok) dig1.ok) dig2.ok) dig3.ok) dig4.ok) dig5.ok) dig6.ok) dig7.ok) dig8.ok) dig9.ok) (deep_none _) (fun _ => rfl) (by kernel_rfl) (by kernel_rfl) trivial (fun x => by kernel_rfl)
noncomputable def txt1.t (x : Int) : T (ByteArray) := T.ite (decide (x < (0 : Int))) (T.opt (txt0 (W ((0 : Int) - x))) fun y => T.ite (decide ((↑((ByteArray.mk #[(45 : UInt8)]).size + y.size) : Int) > IntKind.i64.max)) T.fail (T.ret ((ByteArray.mk #[(45 : UInt8)]) ++ y))) (T.opt (dig9 (W (Int.tdiv x (1024 : Int)))) fun y => T.ite (Int.tmod x (1024 : Int) == (0 : Int)) (T.ret y) (T.ite (decide ((↑(y.size + (ByteArray.mk #[(46 : UInt8)]).size) : Int) > IntKind.i64.max)) T.fail (T.opt (txt1.l0 (y ++ (ByteArray.mk #[(46 : UInt8)]), Int.tmod x (1024 : Int), ())) fun y => T.ite (exEq y.1 (Ex.exit (0 : Nat))) (T.ret y.2.1) T.fail)))
noncomputable def txt1 (x : Int) : Option (ByteArray) := (txt1.t x).run
noncomputable def txt1.q : List AV → T AV := entry [TI] (outR [.str]) fun x => .opt (txt1 x) .ret
theorem txt1.ok : FnOK Tryd.prog 10 txt1.q :=
  entry_call (ps := [TI]) (rs := [.str]) (F := ({ quiet := (ext (ext (ext (ext (ext (ext (ext (ext (ext (ext (ext Xs 10 txt0.q) 26 dig0.q) 26 dig1.q) 26 dig2.q) 26 dig3.q) 26 dig4.q) 26 dig5.q) 26 dig6.q) 26 dig7.q) 26 dig8.q) 26 dig9.q), deep := noDeep } : Fns)) (D := D0) (S := tabS [(0, loopS txt1.L0 33 0 [.exit 0] txt1.l0)]) (t := txt1.t) mixed (quiet_ext (quiet_ext (quiet_ext (quiet_ext (quiet_ext (quiet_ext (quiet_ext (quiet_ext (quiet_ext (quiet_ext (quiet_ext Xok txt0.ok) dig0.ok) dig1.ok) dig2.ok) dig3.ok) dig4.ok) dig5.ok) dig6.ok) dig7.ok) dig8.ok) dig9.ok) (deep_none _) Tryd.func10 (by kernel_rfl) (sok_fn ⟨txt1.k0, trivial⟩) (by kernel_rfl) (fun x => by kernel_rfl)
end Go.Proofs.Pen

namespace Go.Proofs.Pen
open Go Go.Proofs
noncomputable def lex_Text.t (x : Int) : T (ByteArray × Int) := T.ite (decide (x < (-1099511627776 : Int)) || decide (x > (1099511627776 : Int))) (T.ret ((ByteArray.mk #[]), (3 : Int))) (T.ite (decide (x < (0 : Int))) (T.opt (lex_digits (W ((W ((0 : Int) - x)).tdiv (1024 : Int)), (1 : Int))) fun y => T.ite (decide ((↑((ByteArray.mk #[(45 : UInt8)]).size + y.size) : Int) > IntKind.i64.max)) T.fail (T.ite ((W ((0 : Int) - x)).tmod (1024 : Int) == (0 : Int)) (T.ret ((ByteArray.mk #[(45 : UInt8)]) ++ y, (0 : Int))) (T.ite (decide ((↑(((ByteArray.mk #[(45 : UInt8)]) ++ y).size + (ByteArray.mk #[(46 : UInt8)]).size) : Int) > IntKind.i64.max)) T.fail (T.opt (lex_digits (W ((W ((0 : Int) - x)).tmod (1024 : Int) * (9765625 : Int)), (10 : Int))) fun y_1 => T.ite (decide (UInt8.toNat (48 : UInt8) < (128 : Nat)) && decide (y_1.size ≤ (9223372036854775807 : Nat))) (T.ite (decide ((↑(((ByteArray.mk #[(45 : UInt8)]) ++ y ++ (ByteArray.mk #[(46 : UInt8)])).size + (trimR y_1 (48 : UInt8)).size) : Int) > IntKind.i64.max)) T.fail (T.ret ((ByteArray.mk #[(45 : UInt8)]) ++ y ++ (ByteArray.mk #[(46 : UInt8)]) ++ trimR y_1 (48 : UInt8), (0 : Int)))) T.fail)))) (T.opt (lex_digits (W (Int.tdiv x (1024 : Int)), (1 : Int))) fun y => T.ite (decide ((↑((ByteArray.mk #[]).size + y.size) : Int) > IntKind.i64.max)) T.fail (T.ite (Int.tmod x (1024 : Int) == (0 : Int)) (T.ret ((ByteArray.mk #[]) ++ y, (0 : Int))) (T.ite (decide ((↑(((ByteArray.mk #[]) ++ y).size + (ByteArray.mk #[(46 : UInt8)]).size) : Int) > IntKind.i64.max)) T.fail (T.opt (lex_digits (W (Int.tmod x (1024 : Int) * (9765625 : Int)), (10 : Int))) fun y_1 => T.ite (decide (UInt8.toNat (48 : UInt8) < (128 : Nat)) && decide (y_1.size ≤ (9223372036854775807 : Nat))) (T.ite (decide ((↑(((ByteArray.mk #[]) ++ y ++ (ByteArray.mk #[(46 : UInt8)])).size + (trimR y_1 (48 : UInt8)).size) : Int) > IntKind.i64.max)) T.fail (T.ret ((ByteArray.mk #[]) ++ y ++ (ByteArray.mk #[(46 : UInt8)]) ++ trimR y_1 (48 : UInt8), (0 : Int)))) T.fail)))))
noncomputable def lex_Text (x : Int) : Option (ByteArray × Int) := (lex_Text.t x).run
noncomputable def lex_Text.q : List AV → T AV := entry [TI] (outR [.str, TI]) fun x => .opt (lex_Text x) .ret
theorem lex_Text.ok : FnOK Tryd.prog 7 lex_Text.q :=
  entry_call (ps := [TI]) (rs := [.str, TI]) (F := ({ quiet := (ext Xs 20 lex_digits.q), deep := noDeep } : Fns)) (D := D0) (S := tabS []) (t := lex_Text.t) mixed (quiet_ext Xok lex_digits.ok) (deep_none _) Tryd.func7 (by kernel_rfl) (sok_fn trivial) (by kernel_rfl) (fun x => by kernel_rfl)
end Go.Proofs.Pen

namespace Go.Proofs.Pen
open Go Go.Proofs

theorem small {n : Nat} (h : n ≤ 1000) : decide (((n : Nat) : Int) > IntKind.i64.max) = false := by
  have e : IntKind.i64.max = 9223372036854775807 := rfl
  rw [e]
  exact decide_eq_false (by omega)

/-! ### The document's digits -/
def dgs (f n : Nat) : List UInt8 := (rdig f n 1).reverse.map dg
theorem dgs_len (f n : Nat) : (dgs f n).length ≤ f := by unfold dgs; rw [List.length_map, List.length_reverse]; exact rdig_len _ _ _
theorem dgs_small {f n : Nat} (h : n < 10) : dgs (f + 1) n = [dg n] := by
  unfold dgs
  simp only [rdig]
  rw [if_neg (by omega), Nat.div_eq_of_lt h, Nat.sub_self, rdig_nil, Nat.mod_eq_of_lt h]
  rfl
theorem dgs_more {f n : Nat} (h : 10 ≤ n) : dgs (f + 1) n = dgs f (n / 10) ++ [dg (n % 10)] := by
  unfold dgs
  simp only [rdig]
  rw [if_neg (by omega), Nat.sub_self, rdig_one (by omega)]
  simp

theorem one_digit {n : Nat} (h : n < 10) : (ByteArray.mk #[(48 : UInt8), (49 : UInt8), (50 : UInt8), (51 : UInt8), (52 : UInt8), (53 : UInt8), (54 : UInt8), (55 : UInt8), (56 : UInt8), (57 : UInt8)]).extract n (n + 1) = B [dg n] := by
  match n, h with
  | 0, _ => rfl
  | 1, _ => rfl
  | 2, _ => rfl
  | 3, _ => rfl
  | 4, _ => rfl
  | 5, _ => rfl
  | 6, _ => rfl
  | 7, _ => rfl
  | 8, _ => rfl
  | 9, _ => rfl

theorem dig_small {x : Int} {n : Nat} (hx : x = n) (h : n < 10) (r : T ByteArray) : (T.ite (decide (x < (10 : Int))) (T.ite (decide ((0 : Int) ≤ x) && decide (x ≤ W (x + (1 : Int))) && decide (W (x + (1 : Int)) ≤ (↑(ByteArray.mk #[(48 : UInt8), (49 : UInt8), (50 : UInt8), (51 : UInt8), (52 : UInt8), (53 : UInt8), (54 : UInt8), (55 : UInt8), (56 : UInt8), (57 : UInt8)]).size : Int))) (T.ret ((ByteArray.mk #[(48 : UInt8), (49 : UInt8), (50 : UInt8), (51 : UInt8), (52 : UInt8), (53 : UInt8), (54 : UInt8), (55 : UInt8), (56 : UInt8), (57 : UInt8)]).extract (Int.toNat x) (W (x + (1 : Int))).toNat)) T.fail) r).run = some (B [dg n]) := by
  subst hx
  have hs : ((ByteArray.mk #[(48 : UInt8), (49 : UInt8), (50 : UInt8), (51 : UInt8), (52 : UInt8), (53 : UInt8), (54 : UInt8), (55 : UInt8), (56 : UInt8), (57 : UInt8)]).size : Int) = 10 := rfl
  rw [tr_yes (by rw [decide_eq_true_eq]; omega), W_id (by omega) (by omega), hs, tr_yes (by simp; omega), tr_ret, Int.toNat_natCast, show ((n : Int) + 1).toNat = n + 1 by omega, one_digit h]

theorem dig_step {t : Int → T ByteArray} {prev : Int → Option ByteArray} {k : Nat} (hk : k ≤ 15)
    (e : ∀ x, t x = T.ite (decide (x < (10 : Int))) (T.ite (decide ((0 : Int) ≤ x) && decide (x ≤ W (x + (1 : Int))) && decide (W (x + (1 : Int)) ≤ (↑(ByteArray.mk #[(48 : UInt8), (49 : UInt8), (50 : UInt8), (51 : UInt8), (52 : UInt8), (53 : UInt8), (54 : UInt8), (55 : UInt8), (56 : UInt8), (57 : UInt8)]).size : Int))) (T.ret ((ByteArray.mk #[(48 : UInt8), (49 : UInt8), (50 : UInt8), (51 : UInt8), (52 : UInt8), (53 : UInt8), (54 : UInt8), (55 : UInt8), (56 : UInt8), (57 : UInt8)]).extract (Int.toNat x) (W (x + (1 : Int))).toNat)) T.fail) (T.opt (prev (W (Int.tdiv x (10 : Int)))) fun y => T.opt (prev (Int.tmod x (10 : Int))) fun y_1 => T.ite (decide ((↑(y.size + y_1.size) : Int) > IntKind.i64.max)) T.fail (T.ret (y ++ y_1))))
    (hp : ∀ n : Nat, n < 10 ^ (k + 1) → prev n = some (B (dgs (k + 1) n))) (n : Nat) (hn : n < 10 ^ (k + 2)) (hb : n < 2 ^ 62) : (t n).run = some (B (dgs (k + 2) n)) := by
  rw [e n]
  by_cases h : n < 10
  · rw [dig_small rfl h, dgs_small h]
  · rw [tr_no (by simp; omega)]
    have e1 : W ((n : Int).tdiv 10) = ((n / 10 : Nat) : Int) := by
      rw [show (n : Int).tdiv 10 = ((n / 10 : Nat) : Int) by rw [Int.tdiv_eq_ediv_of_nonneg (by omega)]; omega]
      exact W_id (by omega) (by omega)
    have e2 : (n : Int).tmod 10 = ((n % 10 : Nat) : Int) := by
      rw [Int.tmod_eq_emod_of_nonneg (by omega)]; omega
    have h1 : n / 10 < 10 ^ (k + 1) := by
      rw [Nat.div_lt_iff_lt_mul (by omega), ← Nat.pow_succ]; exact hn
    have h10 : 10 ≤ 10 ^ (k + 1) := by
      rw [Nat.pow_succ]; have := Nat.pow_pos (n := k) (show 0 < 10 by omega); omega
    have l1 := dgs_len (k + 1) (n / 10)
    rw [e1, e2, hp _ h1, hp (n % 10) (by omega), tr_opt, Option.bind_some, tr_opt, Option.bind_some, B_size, B_size, dgs_small (n := n % 10) (by omega), tr_no (small (n := (dgs (k + 1) (n / 10)).length + [dg (n % 10)].length) (by rw [List.length_singleton]; omega)), tr_ret, B_app, dgs_more (n := n) (by omega)]

theorem dig0_eq (n : Nat) (hn : n < 10 ^ 1) : dig0 n = some (B (dgs 1 n)) := by
  unfold dig0 dig0.t
  rw [dig_small rfl (by omega), dgs_small (by omega)]
theorem dig1_eq (n : Nat) (hn : n < 10 ^ 2) : dig1 n = some (B (dgs 2 n)) := dig_step (k := 0) (by omega) (fun _ => rfl) dig0_eq n hn (by omega)
theorem dig2_eq (n : Nat) (hn : n < 10 ^ 3) : dig2 n = some (B (dgs 3 n)) := dig_step (k := 1) (by omega) (fun _ => rfl) dig1_eq n hn (by omega)
theorem dig3_eq (n : Nat) (hn : n < 10 ^ 4) : dig3 n = some (B (dgs 4 n)) := dig_step (k := 2) (by omega) (fun _ => rfl) dig2_eq n hn (by omega)
theorem dig4_eq (n : Nat) (hn : n < 10 ^ 5) : dig4 n = some (B (dgs 5 n)) := dig_step (k := 3) (by omega) (fun _ => rfl) dig3_eq n hn (by omega)
theorem dig5_eq (n : Nat) (hn : n < 10 ^ 6) : dig5 n = some (B (dgs 6 n)) := dig_step (k := 4) (by omega) (fun _ => rfl) dig4_eq n hn (by omega)
theorem dig6_eq (n : Nat) (hn : n < 10 ^ 7) : dig6 n = some (B (dgs 7 n)) := dig_step (k := 5) (by omega) (fun _ => rfl) dig5_eq n hn (by omega)
theorem dig7_eq (n : Nat) (hn : n < 10 ^ 8) : dig7 n = some (B (dgs 8 n)) := dig_step (k := 6) (by omega) (fun _ => rfl) dig6_eq n hn (by omega)
theorem dig8_eq (n : Nat) (hn : n < 10 ^ 9) : dig8 n = some (B (dgs 9 n)) := dig_step (k := 7) (by omega) (fun _ => rfl) dig7_eq n hn (by omega)
theorem dig9_eq (n : Nat) (hn : n < 10 ^ 10) : dig9 n = some (B (dgs 10 n)) := dig_step (k := 8) (by omega) (fun _ => rfl) dig8_eq n hn (by omega)

/-! ### The digits of a fraction -/
def fr : Nat → Nat → List Nat
  | 0, _ => []
  | c + 1, f => if f = 0 then [] else f * 10 / 1024 :: fr c (f * 10 % 1024)
theorem fr_lt : ∀ (c f : Nat), f < 1024 → ∀ d ∈ fr c f, d < 10
  | 0, _, _ => by simp [fr]
  | c + 1, f, h => by
    simp only [fr]
    split
    · simp
    · intro d hd
      rcases List.mem_cons.1 hd with rfl | hd
      · omega
      · exact fr_lt c _ (by omega) d hd
theorem fr_len : ∀ (c f : Nat), (fr c f).length ≤ c
  | 0, _ => by simp [fr]
  | c + 1, f => by
    simp only [fr]
    split
    · simp
    · have := fr_len c (f * 10 % 1024); simp only [List.length_cons]; omega

theorem frac_loop {t : ByteArray × Int × Unit → T (Ex × ByteArray × Int × Unit)}
    (e : ∀ x, t x = T.ite (decide (x.2.1 > (0 : Int))) (T.opt (dig9 (W ((W (x.2.1 * (10 : Int))).tdiv (1024 : Int)))) fun y => T.ite (decide ((↑(ByteArray.size x.1 + y.size) : Int) > IntKind.i64.max)) T.fail (T.ret (Ex.normal, x.1 ++ y, (W (x.2.1 * (10 : Int))).tmod (1024 : Int), ()))) (T.ret (Ex.exit (0 : Nat), x.1, x.2.1, ()))) :
    ∀ (c f : Nat) (s : List UInt8) (m : Nat), f < 1024 → f * 10 ^ c % 1024 = 0 → s.length + c ≤ 100 → c < m →
      (iterT t m (B s, (f : Int), ())).run = some (.exit 0, B (s ++ (fr c f).map dg), 0, ())
  | c, f, s, 0, _, _, _, hm => absurd hm (Nat.not_lt_zero _)
  | 0, f, s, m + 1, hf, h0, hl, hm => by
    have : f = 0 := by rw [Nat.pow_zero, Nat.mul_one] at h0; omega
    subst this
    have e1 : (t (B s, ((0 : Nat) : Int), ())).run = some (.exit 0, B s, 0, ()) := by
      rw [e, tr_no (by simp), tr_ret]; rfl
    rw [iter_step e1]
    simp [fr]
  | c + 1, f, s, m + 1, hf, h0, hl, hm => by
    by_cases hz : f = 0
    · subst hz
      have e1 : (t (B s, ((0 : Nat) : Int), ())).run = some (.exit 0, B s, 0, ()) := by
        rw [e, tr_no (by simp), tr_ret]; rfl
      rw [iter_step e1]
      simp [fr]
    · have e1 : (t (B s, (f : Int), ())).run = some (.normal, B (s ++ [dg (f * 10 / 1024)]), ((f * 10 % 1024 : Nat) : Int), ()) := by
        rw [e]
        dsimp only
        rw [tr_yes (by simp; omega)]
        have a1 : W ((f : Int) * 10) = ((f * 10 : Nat) : Int) := by rw [W_id (by omega) (by omega)]; omega
        have a2 : W (((f * 10 : Nat) : Int).tdiv 1024) = ((f * 10 / 1024 : Nat) : Int) := by
          rw [show ((f * 10 : Nat) : Int).tdiv 1024 = ((f * 10 / 1024 : Nat) : Int) by rw [Int.tdiv_eq_ediv_of_nonneg (by omega)]; omega]
          exact W_id (by omega) (by omega)
        have a3 : ((f * 10 : Nat) : Int).tmod 1024 = ((f * 10 % 1024 : Nat) : Int) := by
          rw [Int.tmod_eq_emod_of_nonneg (by omega)]; omega
        rw [a1, a2, a3, dig9_eq (f * 10 / 1024) (by omega), tr_opt, Option.bind_some, dgs_small (n := f * 10 / 1024) (by omega), B_size, B_size, tr_no (small (n := s.length + [dg (f * 10 / 1024)].length) (by rw [List.length_singleton]; omega)), tr_ret, B_app]
      rw [iter_step e1]
      have h1 : f * 10 % 1024 * 10 ^ c % 1024 = 0 := by
        rw [Nat.mod_mul_mod, Nat.mul_assoc, ← Nat.pow_succ']; exact h0
      have ih := frac_loop e c (f * 10 % 1024) (s ++ [dg (f * 10 / 1024)]) m (by omega) h1 (by simp; omega) (by omega)
      show (iterT t m _).run = _
      rw [ih]
      simp only [fr, if_neg hz, List.map_cons, List.append_assoc, List.cons_append, List.nil_append]
end Go.Proofs.Pen

namespace Go.Proofs.Pen
open Go Go.Proofs

theorem frac_trim : ((List.range 1024).all fun f => (rdig 10 (f * 9765625) 10).dropWhile (· == 0) == (fr 10 f).reverse) = true := by kernel_rfl

theorem drop_dg : ∀ (l : List Nat), (∀ d ∈ l, d < 10) → (l.map dg).dropWhile (· == 48) = (l.dropWhile (· == 0)).map dg
  | [], _ => rfl
  | a :: l, h => by
    have ha := h a (by simp)
    have e : (dg a == 48) = (a == 0) := by
      match a, ha with
      | 0, _ => rfl | 1, _ => rfl | 2, _ => rfl | 3, _ => rfl | 4, _ => rfl | 5, _ => rfl | 6, _ => rfl | 7, _ => rfl | 8, _ => rfl | 9, _ => rfl
    rw [List.map_cons, List.dropWhile_cons, List.dropWhile_cons, e]
    split
    · exact drop_dg l fun d hd => h d (by simp [hd])
    · rfl

theorem trimR_B (l : List UInt8) (b : UInt8) : trimR (B l) b = B ((l.reverse.dropWhile (· == b)).reverse) := by
  unfold trimR Lib.trimRightB
  rw [B_data]; rfl

/-- A fraction's digits. -/
def fx (f : Nat) : List UInt8 := (fr 10 f).map dg
theorem fx_len (f : Nat) : (fx f).length ≤ 10 := by unfold fx; rw [List.length_map]; exact fr_len _ _
theorem trim_frac {f : Nat} (h : f < 1024) : trimR (B ((rdig 10 (f * 9765625) 10).reverse.map dg)) 48 = B (fx f) := by
  rw [trimR_B, ← List.map_reverse, List.reverse_reverse, drop_dg _ (rdig_lt _ _ _)]
  have h1 := List.all_eq_true.1 frac_trim f (List.mem_range.2 h)
  rw [eq_of_beq h1, ← List.map_reverse, List.reverse_reverse]
  rfl

/-- The text of a numerator. -/
def Nx (n : Nat) : List UInt8 := dgs 10 (n / 1024) ++ if n % 1024 = 0 then [] else 46 :: fx (n % 1024)
def Tx (k : Int) : List UInt8 := (if k < 0 then [45] else []) ++ Nx k.natAbs
theorem Nx_len (n : Nat) : (Nx n).length ≤ 21 := by
  unfold Nx
  have h1 := dgs_len 10 (n / 1024)
  have h2 := fx_len (n % 1024)
  rw [List.length_append]
  split <;> simp <;> omega

theorem pow_frac {f : Nat} : f * 10 ^ 10 % 1024 = 0 := by
  have : f * 10 ^ 10 = (f * 9765625) * 1024 := by omega
  rw [this]; exact Nat.mul_mod_left _ _

theorem div_nat {n : Nat} (h : n < 2 ^ 62) : W ((n : Int).tdiv 1024) = ((n / 1024 : Nat) : Int) := by
  rw [show (n : Int).tdiv 1024 = ((n / 1024 : Nat) : Int) by rw [Int.tdiv_eq_ediv_of_nonneg (by omega)]; omega]
  exact W_id (by omega) (by omega)
theorem mod_nat (n : Nat) : (n : Int).tmod 1024 = ((n % 1024 : Nat) : Int) := by
  rw [Int.tmod_eq_emod_of_nonneg (by omega)]; omega

theorem txt0_eq {n : Nat} (h : n ≤ 1099511627776) : txt0 n = some (B (Nx n)) := by
  unfold txt0 txt0.t
  rw [tr_no (by simp), div_nat (by omega), mod_nat, dig9_eq (n / 1024) (by omega), tr_opt, Option.bind_some, Nx]
  by_cases hz : n % 1024 = 0
  · rw [tr_yes (by rw [hz]; rfl), tr_ret, if_pos hz, List.append_nil]
  · have hl := dgs_len 10 (n / 1024)
    rw [tr_no (by simp; omega), if_neg hz, B_size]
    have hm : ByteArray.mk #[(46 : UInt8)] = B [46] := rfl
    rw [hm, B_size, tr_no (small (n := (dgs 10 (n / 1024)).length + [(46 : UInt8)].length) (by rw [List.length_singleton]; omega)), B_app, tr_opt]
    unfold txt0.l0
    rw [frac_loop (t := txt0.t0) (fun _ => rfl) 10 (n % 1024) (dgs 10 (n / 1024) ++ [46]) rounds (by omega) pow_frac (by rw [List.length_append, List.length_singleton]; omega) (rounds_gt (by omega)), Option.bind_some]
    dsimp only
    rw [tr_yes (by decide), tr_ret, List.append_assoc]
    rfl

theorem txt1_eq {k : Int} (h0 : -1099511627776 ≤ k) (h1 : k ≤ 1099511627776) : txt1 k = some (B (Tx k)) := by
  unfold txt1 txt1.t Tx
  by_cases hk : k < 0
  · obtain ⟨n, rfl⟩ : ∃ n : Nat, k = -(n : Int) := ⟨k.natAbs, by omega⟩
    have hW : W (0 - -(n : Int)) = (n : Int) := by rw [W_id (by omega) (by omega)]; omega
    have hl := Nx_len n
    have hm : ByteArray.mk #[(45 : UInt8)] = B [45] := rfl
    rw [tr_yes (by rw [decide_eq_true_eq]; exact hk), hW, txt0_eq (by omega), tr_opt, Option.bind_some, hm, B_size, B_size, tr_no (small (n := [(45 : UInt8)].length + (Nx n).length) (by rw [List.length_singleton]; omega)), tr_ret, B_app, if_pos hk]
    rw [show (-(n : Int)).natAbs = n by omega]
  · obtain ⟨n, rfl⟩ : ∃ n : Nat, k = (n : Int) := ⟨k.natAbs, by omega⟩
    rw [if_neg hk, List.nil_append, show ((n : Int)).natAbs = n by omega]
    rw [tr_no (by simp), div_nat (by omega), mod_nat, dig9_eq (n / 1024) (by omega), tr_opt, Option.bind_some, Nx]
    by_cases hz : n % 1024 = 0
    · rw [tr_yes (by rw [hz]; rfl), tr_ret, if_pos hz, List.append_nil]
    · have hl := dgs_len 10 (n / 1024)
      rw [tr_no (by simp; omega), if_neg hz, B_size]
      have hm : ByteArray.mk #[(46 : UInt8)] = B [46] := rfl
      rw [hm, B_size, tr_no (small (n := (dgs 10 (n / 1024)).length + [(46 : UInt8)].length) (by rw [List.length_singleton]; omega)), B_app, tr_opt]
      unfold txt1.l0
      rw [frac_loop (t := txt1.t0) (fun _ => rfl) 10 (n % 1024) (dgs 10 (n / 1024) ++ [46]) rounds (by omega) pow_frac (by rw [List.length_append, List.length_singleton]; omega) (rounds_gt (by omega)), Option.bind_some]
      dsimp only
      rw [tr_yes (by decide), tr_ret, List.append_assoc]
      rfl

/-! ### lex.Text -/
noncomputable def textTail (p : ByteArray) (x : Int) : T (ByteArray × Int) :=
  T.opt (lex_digits (W (Int.tdiv x (1024 : Int)), (1 : Int))) fun y => T.ite (decide ((↑(p.size + y.size) : Int) > IntKind.i64.max)) T.fail (T.ite (Int.tmod x (1024 : Int) == (0 : Int)) (T.ret (p ++ y, (0 : Int))) (T.ite (decide ((↑((p ++ y).size + (ByteArray.mk #[(46 : UInt8)]).size) : Int) > IntKind.i64.max)) T.fail (T.opt (lex_digits (W (Int.tmod x (1024 : Int) * (9765625 : Int)), (10 : Int))) fun y_1 => T.ite (decide (UInt8.toNat (48 : UInt8) < (128 : Nat)) && decide (y_1.size ≤ (9223372036854775807 : Nat))) (T.ite (decide ((↑((p ++ y ++ (ByteArray.mk #[(46 : UInt8)])).size + (trimR y_1 (48 : UInt8)).size) : Int) > IntKind.i64.max)) T.fail (T.ret (p ++ y ++ (ByteArray.mk #[(46 : UInt8)]) ++ trimR y_1 (48 : UInt8), (0 : Int)))) T.fail)))

theorem tail_eq (p : List UInt8) (hp : p.length ≤ 1) {n : Nat} (h : n ≤ 1099511627776) : (textTail (B p) n).run = some (B (p ++ Nx n), 0) := by
  unfold textTail
  have hl := dgs_len 10 (n / 1024)
  have hd : lex_digits (((n / 1024 : Nat) : Int), 1) = some (B (dgs 10 (n / 1024))) := digits_eq 10 (n / 1024) 1 (by omega) (by omega) (by omega) (by omega)
  rw [div_nat (by omega), mod_nat, hd, tr_opt, Option.bind_some, B_size, B_size, tr_no (small (n := p.length + (dgs 10 (n / 1024)).length) (by omega)), Nx, B_app]
  by_cases hz : n % 1024 = 0
  · rw [tr_yes (by rw [hz]; rfl), tr_ret, if_pos hz, List.append_nil]
  · have hm : ByteArray.mk #[(46 : UInt8)] = B [46] := rfl
    have hW : W (((n % 1024 : Nat) : Int) * 9765625) = ((n % 1024 * 9765625 : Nat) : Int) := by rw [W_id (by omega) (by omega)]; omega
    have hd2 : lex_digits (((n % 1024 * 9765625 : Nat) : Int), 10) = some (B ((rdig 10 (n % 1024 * 9765625) 10).reverse.map dg)) := digits_eq 10 (n % 1024 * 9765625) 10 (by omega) (by omega) (by omega) (by omega)
    have hs : (decide (UInt8.toNat (48 : UInt8) < (128 : Nat)) && decide ((B ((rdig 10 (n % 1024 * 9765625) 10).reverse.map dg)).size ≤ (9223372036854775807 : Nat))) = true := by
      have := rdig_len 10 (n % 1024 * 9765625) 10
      rw [B_size, List.length_map, List.length_reverse, Bool.and_eq_true, decide_eq_true_eq, decide_eq_true_eq]
      exact ⟨by decide, by omega⟩
    have hf := fx_len (n % 1024)
    rw [tr_no (by simp; omega), if_neg hz, hm, B_size, B_size, tr_no (small (n := (p ++ dgs 10 (n / 1024)).length + [(46 : UInt8)].length) (by rw [List.length_singleton, List.length_append]; omega)), hW, hd2, tr_opt, Option.bind_some, tr_yes hs, trim_frac (f := n % 1024) (by omega), B_app, B_size, B_size,
      tr_no (small (n := (p ++ dgs 10 (n / 1024) ++ [(46 : UInt8)]).length + (fx (n % 1024)).length) (by rw [List.length_append, List.length_singleton, List.length_append]; omega)), tr_ret, B_app]
    simp

theorem Text_eq {k : Int} (h0 : -1099511627776 ≤ k) (h1 : k ≤ 1099511627776) : lex_Text k = some (B (Tx k), 0) := by
  unfold lex_Text lex_Text.t Tx
  rw [tr_no (by simp; omega)]
  by_cases hk : k < 0
  · obtain ⟨n, rfl⟩ : ∃ n : Nat, k = -(n : Int) := ⟨k.natAbs, by omega⟩
    have hW : W (0 - -(n : Int)) = (n : Int) := by rw [W_id (by omega) (by omega)]; omega
    rw [tr_yes (by rw [decide_eq_true_eq]; exact hk), hW, if_pos hk, show (-(n : Int)).natAbs = n by omega]
    exact tail_eq [45] (by simp) (by omega)
  · obtain ⟨n, rfl⟩ : ∃ n : Nat, k = (n : Int) := ⟨k.natAbs, by omega⟩
    rw [tr_no (by simp), if_neg hk, show ((n : Int)).natAbs = n by omega]
    exact tail_eq [] (by simp) (by omega)

theorem Text_out {k : Int} (h : k < -1099511627776 ∨ 1099511627776 < k) : lex_Text k = some (B [], 3) := by
  unfold lex_Text lex_Text.t
  rw [tr_yes (by simp; omega), tr_ret]
  rfl
end Go.Proofs.Pen

namespace Go.Proofs.Pen
open Go Go.Proofs
noncomputable def internal_stringslite_Cut.t (x : ByteArray × ByteArray) : T (ByteArray × ByteArray × Bool) := T.ite (decide (ByteArray.size x.2 = (1 : Nat))) (T.ite (decide (indexB x.1 (byteH x.2) ≥ (0 : Int))) (T.ite (decide ((0 : Int) ≤ (0 : Int)) && decide ((0 : Int) ≤ indexB x.1 (byteH x.2)) && decide (indexB x.1 (byteH x.2) ≤ (↑(ByteArray.size x.1) : Int))) (T.ite (decide ((0 : Int) ≤ W (indexB x.1 (byteH x.2) + (↑(ByteArray.size x.2) : Int))) && decide (W (indexB x.1 (byteH x.2) + (↑(ByteArray.size x.2) : Int)) ≤ (↑(ByteArray.size x.1) : Int)) && decide ((↑(ByteArray.size x.1) : Int) ≤ (↑(ByteArray.size x.1) : Int))) (T.ret (ByteArray.extract x.1 (Int.toNat (0 : Int)) (indexB x.1 (byteH x.2)).toNat, ByteArray.extract x.1 (W (indexB x.1 (byteH x.2) + (↑(ByteArray.size x.2) : Int))).toNat (↑(ByteArray.size x.1) : Int).toNat, true)) T.fail) T.fail) (T.ret (x.1, (ByteArray.mk #[]), false))) T.fail
noncomputable def internal_stringslite_Cut (x : ByteArray × ByteArray) : Option (ByteArray × ByteArray × Bool) := (internal_stringslite_Cut.t x).run
noncomputable def internal_stringslite_Cut.q : List AV → T AV := entry [.str, .str] (outR [.str, .str, .bool]) fun x => .opt (internal_stringslite_Cut x) .ret
theorem internal_stringslite_Cut.ok : FnOK Tryd.prog 35 internal_stringslite_Cut.q :=
  entry_call (ps := [.str, .str]) (rs := [.str, .str, .bool]) (F := ({ quiet := Xs, deep := noDeep } : Fns)) (D := D0) (S := tabS []) (t := internal_stringslite_Cut.t) mixed Xok (deep_none _) Tryd.func35 (by kernel_rfl) (sok_fn trivial) (by kernel_rfl) (fun x => by kernel_rfl)
end Go.Proofs.Pen

namespace Go.Proofs.Pen
open Go Go.Proofs
noncomputable def strings_Cut.t (x : ByteArray × ByteArray) : T (ByteArray × ByteArray × Bool) := T.opt (internal_stringslite_Cut x) fun y => T.ret y
noncomputable def strings_Cut (x : ByteArray × ByteArray) : Option (ByteArray × ByteArray × Bool) := (strings_Cut.t x).run
noncomputable def strings_Cut.q : List AV → T AV := entry [.str, .str] (outR [.str, .str, .bool]) fun x => .opt (strings_Cut x) .ret
theorem strings_Cut.ok : FnOK Tryd.prog 23 strings_Cut.q :=
  entry_call (ps := [.str, .str]) (rs := [.str, .str, .bool]) (F := ({ quiet := (ext Xs 35 internal_stringslite_Cut.q), deep := noDeep } : Fns)) (D := D0) (S := tabS []) (t := strings_Cut.t) mixed (quiet_ext Xok internal_stringslite_Cut.ok) (deep_none _) Tryd.func23 (by kernel_rfl) (sok_fn trivial) (by kernel_rfl) (fun x => by kernel_rfl)
end Go.Proofs.Pen

namespace Go.Proofs.Pen
open Go Go.Proofs
def lex_plain.L0 : List (Nat × Lay) := [(0, .val .str), (2, .val TI), (3, .val .bool), (4, .val TI), (7, .val TI), (8, .val TI)]
noncomputable def lex_plain.t0 (x : ByteArray × Int × Bool × Int × Int × Int × Unit) : T (Ex × ByteArray × Int × Bool × Int × Int × Int × Unit) := T.ite (decide (x.2.2.2.2.2.1 < x.2.2.2.2.1)) (T.opt (sget x.1 x.2.2.2.2.2.1) fun y => T.ite (decide (y < (48 : Int))) (T.ret (Ex.ret, x.1, (0 : Int), false, x.2.2.2.1, x.2.2.2.2.1, x.2.2.2.2.2.1, ())) (T.opt (sget x.1 x.2.2.2.2.2.1) fun y => T.ite (decide (y > (57 : Int))) (T.ret (Ex.ret, x.1, (0 : Int), false, x.2.2.2.1, x.2.2.2.2.1, x.2.2.2.2.2.1, ())) (T.opt (sget x.1 x.2.2.2.2.2.1) fun y => T.ret (Ex.normal, x.1, x.2.1, x.2.2.1, W (W ((10 : Int) * x.2.2.2.1) + W (IntKind.u8.wrap (y - (48 : Int)))), x.2.2.2.2.1, W (x.2.2.2.2.2.1 + (1 : Int)), ())))) (T.ret (Ex.exit (0 : Nat), x.1, x.2.1, x.2.2.1, x.2.2.2.1, x.2.2.2.2.1, x.2.2.2.2.2.1, ()))
noncomputable def lex_plain.l0 (x : ByteArray × Int × Bool × Int × Int × Int × Unit) : Option (Ex × ByteArray × Int × Bool × Int × Int × Int × Unit) := (iterT lex_plain.t0 rounds x).run
theorem lex_plain.k0 : bodies 0 (lp Tryd.f25 []) = [.loop (loopIn 0 (lp Tryd.f25 []))] ∧ WP Tryd.prog 0 (.block 0 (.loop (loopIn 0 (lp Tryd.f25 [])))) (loopS lex_plain.L0 38 0 [.exit 0, .ret] lex_plain.l0) :=
  loop_tree (L := lex_plain.L0) (F := ({ quiet := Xs, deep := noDeep } : Fns)) (D := D0) (tab := []) (t := lex_plain.t0) mixed Xok (deep_none _) (fun _ => rfl) (by kernel_rfl) (by kernel_rfl) trivial (fun x => by kernel_rfl)
noncomputable def lex_plain.t (x : ByteArray) : T (Int × Bool) := T.opt (lex_plain.l0 (x, (0 : Int), false, (0 : Int), (↑(ByteArray.size x) : Int), (0 : Int), ())) fun y => T.ite (exEq y.1 (Ex.exit (0 : Nat))) (T.ret (y.2.2.2.2.1, !ByteArray.toList y.2.1 == (ByteArray.mk #[]).toList && decide ((↑(ByteArray.size y.2.1) : Int) ≤ (10 : Int)))) (T.ite (exEq y.1 Ex.ret) (T.ret (y.2.2.1, y.2.2.2.1)) T.fail)
noncomputable def lex_plain (x : ByteArray) : Option (Int × Bool) := (lex_plain.t x).run
noncomputable def lex_plain.q : List AV → T AV := entry [.str] (outR [TI, .bool]) fun x => .opt (lex_plain x) .ret
theorem lex_plain.ok : FnOK Tryd.prog 25 lex_plain.q :=
  entry_call (ps := [.str]) (rs := [TI, .bool]) (F := ({ quiet := Xs, deep := noDeep } : Fns)) (D := D0) (S := tabS [(0, loopS lex_plain.L0 38 0 [.exit 0, .ret] lex_plain.l0)]) (t := lex_plain.t) mixed Xok (deep_none _) Tryd.func25 (by kernel_rfl) (sok_fn ⟨lex_plain.k0, trivial⟩) (by kernel_rfl) (fun x => by kernel_rfl)
end Go.Proofs.Pen

namespace Go.Proofs.Pen
open Go Go.Proofs
noncomputable def lex_Number.t (x : ByteArray) : T (Int × Bool) := T.ite (decide ((↑(ByteArray.size x) : Int) > (40 : Int))) (T.ret ((0 : Int), false)) (T.opt (strings_Cut (cutP x (ByteArray.mk #[(45 : UInt8)]), (ByteArray.mk #[(46 : UInt8)]))) fun y => T.ite (decide ((0 : Int) ≤ if (0 : Int) > W ((10 : Int) - (↑(ByteArray.size y.2.1) : Int)) then (0 : Int) else W ((10 : Int) - (↑(ByteArray.size y.2.1) : Int))) && decide (((↑(ByteArray.mk #[(48 : UInt8)]).size : Int) * if (0 : Int) > W ((10 : Int) - (↑(ByteArray.size y.2.1) : Int)) then (0 : Int) else W ((10 : Int) - (↑(ByteArray.size y.2.1) : Int))) ≤ (140737488355328 : Int)) && decide ((if (0 : Int) > W ((10 : Int) - (↑(ByteArray.size y.2.1) : Int)) then (0 : Int) else W ((10 : Int) - (↑(ByteArray.size y.2.1) : Int))) ≤ (9223372036854775807 : Int))) (T.ite (decide ((↑(ByteArray.size y.2.1 + (repB (ByteArray.mk #[(48 : UInt8)]) (if (0 : Int) > W ((10 : Int) - (↑(ByteArray.size y.2.1) : Int)) then (0 : Int) else W ((10 : Int) - (↑(ByteArray.size y.2.1) : Int)))).size) : Int) > IntKind.i64.max)) T.fail (T.opt (lex_plain y.1) fun y_1 => T.opt (lex_plain (y.2.1 ++ repB (ByteArray.mk #[(48 : UInt8)]) (if (0 : Int) > W ((10 : Int) - (↑(ByteArray.size y.2.1) : Int)) then (0 : Int) else W ((10 : Int) - (↑(ByteArray.size y.2.1) : Int))))) fun y => T.ite (!y_1.snd || !y.2) (T.ret ((0 : Int), false)) (T.ite (Int.tmod y.1 (9765625 : Int) != (0 : Int) || decide (y_1.fst > (1073741824 : Int))) (T.ret ((0 : Int), false)) (T.ite (hasP x (ByteArray.mk #[(45 : UInt8)])) (T.opt (lex_Text (W ((0 : Int) - W (W (y_1.fst * (1024 : Int)) + W (Int.tdiv y.1 (9765625 : Int)))))) fun y_2 => T.ite (y_2.snd != (0 : Int) || !ByteArray.toList y_2.fst == ByteArray.toList x) (T.ret ((0 : Int), false)) (T.ret (W ((0 : Int) - W (W (y_1.fst * (1024 : Int)) + W (Int.tdiv y.1 (9765625 : Int)))), true))) (T.opt (lex_Text (W (W (y_1.fst * (1024 : Int)) + W (Int.tdiv y.1 (9765625 : Int))))) fun y_2 => T.ite (y_2.snd != (0 : Int) || !ByteArray.toList y_2.fst == ByteArray.toList x) (T.ret ((0 : Int), false)) (T.ret (W (W (y_1.fst * (1024 : Int)) + W (Int.tdiv y.1 (9765625 : Int))), true))))))) T.fail)
noncomputable def lex_Number (x : ByteArray) : Option (Int × Bool) := (lex_Number.t x).run
noncomputable def lex_Number.q : List AV → T AV := entry [.str] (outR [TI, .bool]) fun x => .opt (lex_Number x) .ret
theorem lex_Number.ok : FnOK Tryd.prog 9 lex_Number.q :=
  entry_call (ps := [.str]) (rs := [TI, .bool]) (F := ({ quiet := (ext (ext (ext Xs 23 strings_Cut.q) 25 lex_plain.q) 7 lex_Text.q), deep := noDeep } : Fns)) (D := D0) (S := tabS []) (t := lex_Number.t) mixed (quiet_ext (quiet_ext (quiet_ext Xok strings_Cut.ok) lex_plain.ok) lex_Text.ok) (deep_none _) Tryd.func9 (by kernel_rfl) (sok_fn trivial) (by kernel_rfl) (fun x => by kernel_rfl)
end Go.Proofs.Pen

namespace Go.Proofs.Pen
open Go Go.Proofs
noncomputable def lex_Whole.t (x : ByteArray) : T (Int × Bool) := T.opt (lex_Number x) fun y => T.ite (!y.2) (T.ret ((0 : Int), false)) (T.ite (Int.tmod y.1 (1024 : Int) != (0 : Int)) (T.ret ((0 : Int), false)) (T.ret (W (Int.tdiv y.1 (1024 : Int)), true)))
noncomputable def lex_Whole (x : ByteArray) : Option (Int × Bool) := (lex_Whole.t x).run
noncomputable def lex_Whole.q : List AV → T AV := entry [.str] (outR [TI, .bool]) fun x => .opt (lex_Whole x) .ret
theorem lex_Whole.ok : FnOK Tryd.prog 12 lex_Whole.q :=
  entry_call (ps := [.str]) (rs := [TI, .bool]) (F := ({ quiet := (ext Xs 9 lex_Number.q), deep := noDeep } : Fns)) (D := D0) (S := tabS []) (t := lex_Whole.t) mixed (quiet_ext Xok lex_Number.ok) (deep_none _) Tryd.func12 (by kernel_rfl) (sok_fn trivial) (by kernel_rfl) (fun x => by kernel_rfl)
end Go.Proofs.Pen

namespace Go.Proofs.Pen
open Go Go.Proofs

/-! ### Cutting at a dot -/
theorem index_none : ∀ {l : List UInt8} {c : UInt8}, c ∉ l → Lib.indexByte l c = -1
  | [], _, _ => rfl
  | b :: l, c, h => by
    have h1 : b ≠ c := fun e => h (by simp [e])
    have h2 := index_none (l := l) (c := c) fun e => h (by simp [e])
    unfold Lib.indexByte
    rw [if_neg (by simpa using h1), h2]
    rfl
theorem index_first : ∀ {a : List UInt8} {c : UInt8} {b : List UInt8}, c ∉ a → Lib.indexByte (a ++ c :: b) c = (a.length : Int)
  | [], c, b, _ => by
    rw [List.nil_append, Lib.indexByte, if_pos (by simp)]; rfl
  | x :: a, c, b, h => by
    have h1 : x ≠ c := fun e => h (by simp [e])
    have h2 := index_first (a := a) (c := c) (b := b) fun e => h (by simp [e])
    rw [List.cons_append, Lib.indexByte, if_neg (by simpa using h1), h2, if_neg (by simp; try omega)]
    simp
theorem first_of (c : UInt8) : ∀ l : List UInt8, c ∉ l ∨ ∃ a b, l = a ++ c :: b ∧ c ∉ a
  | [] => .inl (by simp)
  | x :: l => by
    by_cases hx : x = c
    · exact .inr ⟨[], l, by simp [hx], by simp⟩
    · rcases first_of c l with h | ⟨a, b, rfl, h⟩
      · exact .inl (by simp only [List.mem_cons, not_or]; exact ⟨fun e => hx e.symm, h⟩)
      · exact .inr ⟨x :: a, b, by simp, by simp only [List.mem_cons, not_or]; exact ⟨fun e => hx e.symm, h⟩⟩

theorem indexB_B (l : List UInt8) (c : UInt8) : indexB (B l) c = Lib.indexByte l c := by unfold indexB; rw [B_data]
theorem byteH_one (c : UInt8) : byteH (B [c]) = c := rfl

theorem cut_none {l : List UInt8} {c : UInt8} (h : c ∉ l) : strings_Cut (B l, B [c]) = some (B l, B [], false) := by
  have : internal_stringslite_Cut (B l, B [c]) = some (B l, B [], false) := by
    unfold internal_stringslite_Cut internal_stringslite_Cut.t
    dsimp only
    rw [tr_yes (by rw [B_size]; rfl), byteH_one, indexB_B, index_none h, tr_no (by decide), tr_ret]
    rfl
  unfold strings_Cut strings_Cut.t
  rw [this, tr_opt, Option.bind_some, tr_ret]
theorem cut_first {a b : List UInt8} {c : UInt8} (h : c ∉ a) (hl : a.length + b.length ≤ 1000) : strings_Cut (B (a ++ c :: b), B [c]) = some (B a, B b, true) := by
  have : internal_stringslite_Cut (B (a ++ c :: b), B [c]) = some (B a, B b, true) := by
    unfold internal_stringslite_Cut internal_stringslite_Cut.t
    dsimp only
    have hs : (a ++ c :: b).length = a.length + b.length + 1 := by simp; omega
    have h1 : ([c] : List UInt8).length = 1 := rfl
    have hW : W ((a.length : Int) + ((1 : Nat) : Int)) = ((a.length + 1 : Nat) : Int) := by rw [W_id (by omega) (by omega)]; omega
    rw [tr_yes (by rw [B_size]; rfl), byteH_one, indexB_B, index_first h, B_size, B_size, hs, h1, hW, tr_yes (by simp), tr_yes (by simp; omega), tr_yes (by simp; omega), tr_ret]
    rw [B_extract, B_extract, Int.toNat_natCast, Int.toNat_natCast, Int.toNat_natCast]
    have e1 : List.drop (Int.toNat 0) (List.take a.length (a ++ c :: b)) = a := by simp
    have e2 : List.drop (a.length + 1) (List.take (a.length + b.length + 1) (a ++ c :: b)) = b := by
      rw [List.take_of_length_le (by omega), show a ++ c :: b = (a ++ [c]) ++ b by simp, List.drop_left' (by simp)]
    rw [e1, e2]
  unfold strings_Cut strings_Cut.t
  rw [this, tr_opt, Option.bind_some, tr_ret]

/-! ### Reading digits -/
def hor (a : Nat) (l : List Nat) : Nat := l.foldl (fun a d => 10 * a + d) a
theorem hor_cons (a d : Nat) (l : List Nat) : hor a (d :: l) = hor (10 * a + d) l := rfl
theorem hor_rdig : ∀ (f n k : Nat), n < 10 ^ f → hor 0 (rdig f n k).reverse = n := by
  intro f n k h
  unfold hor
  rw [List.foldl_reverse]
  induction f generalizing n k with
  | zero => simp at h; subst h; rfl
  | succ f ih =>
    simp only [rdig]
    split
    · rename_i hc; rw [hc.1]; rfl
    · rw [List.foldr_cons, ih (n / 10) (k - 1) (by rw [Nat.div_lt_iff_lt_mul (by omega), ← Nat.pow_succ]; exact h)]
      omega
theorem hor_lt : ∀ (l : List Nat) (a j : Nat), (∀ d ∈ l, d < 10) → a < 10 ^ j → hor a l < 10 ^ (j + l.length)
  | [], a, j, _, h => by simpa [hor] using h
  | d :: l, a, j, hl, h => by
    have hd := hl d (by simp)
    have := hor_lt l (10 * a + d) (j + 1) (fun x hx => hl x (by simp [hx])) (by rw [Nat.pow_succ]; omega)
    rw [hor_cons, List.length_cons, show j + (l.length + 1) = j + 1 + l.length by omega]
    exact this

theorem plain_loop : ∀ (post : List Nat) (pre : List UInt8) (a j m : Nat), (∀ d ∈ post, d < 10) → a < 10 ^ j → j + post.length ≤ 17 → pre.length + post.length ≤ 17 → post.length < m →
    (iterT lex_plain.t0 m (B (pre ++ post.map dg), 0, false, (a : Int), ((pre.length + post.length : Nat) : Int), (pre.length : Int), ())).run =
      some (.exit 0, B (pre ++ post.map dg), 0, false, (hor a post : Int), ((pre.length + post.length : Nat) : Int), ((pre.length + post.length : Nat) : Int), ())
  | post, pre, a, j, 0, _, _, _, _, hm => absurd hm (Nat.not_lt_zero _)
  | [], pre, a, j, m + 1, _, _, _, _, _ => by
    have e : (lex_plain.t0 (B (pre ++ ([] : List Nat).map dg), 0, false, (a : Int), ((pre.length + ([] : List Nat).length : Nat) : Int), (pre.length : Int), ())).run = some (.exit 0, B (pre ++ ([] : List Nat).map dg), 0, false, (a : Int), ((pre.length + ([] : List Nat).length : Nat) : Int), (pre.length : Int), ()) := by
      unfold lex_plain.t0
      dsimp only
      rw [tr_no (by simp), tr_ret]
    rw [iter_step e]
    rfl
  | d :: post, pre, a, j, m + 1, hl, ha, hj, hp, hm => by
    have hd := hl d (by simp)
    have hlt : a < 10 ^ 16 := Nat.lt_of_lt_of_le ha (Nat.pow_le_pow_right (by omega) (by simp at hj; omega))
    have hg : sget (B (pre ++ (d :: post).map dg)) (pre.length : Int) = some ((48 + d : Nat) : Int) := by
      rw [sget_B, List.map_cons, List.getElem?_append_right (Nat.le_refl _), Nat.sub_self, List.getElem?_cons_zero, Option.map_some, dg_nat hd]
    have e : (lex_plain.t0 (B (pre ++ (d :: post).map dg), 0, false, (a : Int), ((pre.length + (d :: post).length : Nat) : Int), (pre.length : Int), ())).run = some (.normal, B ((pre ++ [dg d]) ++ post.map dg), 0, false, ((10 * a + d : Nat) : Int), (((pre ++ [dg d]).length + post.length : Nat) : Int), (((pre ++ [dg d]).length : Nat) : Int), ()) := by
      unfold lex_plain.t0
      dsimp only
      rw [tr_yes (by rw [decide_eq_true_eq, List.length_cons]; omega), hg, tr_opt, Option.bind_some, tr_no (by rw [decide_eq_false_iff_not]; omega), tr_opt, Option.bind_some, tr_no (by rw [decide_eq_false_iff_not]; omega), tr_opt, Option.bind_some, tr_ret]
      have hw : IntKind.u8.wrap (((48 + d : Nat) : Int) - 48) = (d : Int) := by
        show (((48 + d : Nat) : Int) - 48) % 256 = (d : Int)
        omega
      rw [hw, W_id (n := (d : Int)) (by omega) (by omega), W_id (n := 10 * (a : Int)) (by omega) (by omega), W_id (by omega) (by omega), W_id (by omega) (by omega)]
      have e1 : pre ++ (d :: post).map dg = (pre ++ [dg d]) ++ post.map dg := by simp
      rw [e1]
      have e2 : 10 * (a : Int) + (d : Int) = ((10 * a + d : Nat) : Int) := by omega
      have e3 : (pre.length : Int) + 1 = (((pre ++ [dg d]).length : Nat) : Int) := by simp
      have e4 : pre.length + (d :: post).length = (pre ++ [dg d]).length + post.length := by simp; omega
      rw [e2, e3, e4]
    rw [iter_step e]
    show (iterT lex_plain.t0 m _).run = _
    rw [plain_loop post (pre ++ [dg d]) (10 * a + d) (j + 1) m (fun x hx => hl x (by simp [hx])) (by rw [Nat.pow_succ]; omega) (by simp at hj; omega) (by simp at hp ⊢; omega) (by simp at hm; omega)]
    have e1 : pre ++ (d :: post).map dg = (pre ++ [dg d]) ++ post.map dg := by simp
    have e4 : pre.length + (d :: post).length = (pre ++ [dg d]).length + post.length := by simp; omega
    rw [e1, e4, hor_cons]
end Go.Proofs.Pen

namespace Go.Proofs.Pen
open Go Go.Proofs

theorem plain_eq {l : List Nat} (hd : ∀ d ∈ l, d < 10) (h0 : l ≠ []) (h1 : l.length ≤ 10) : lex_plain (B (l.map dg)) = some ((hor 0 l : Int), true) := by
  unfold lex_plain lex_plain.t
  have hlp := plain_loop l [] 0 0 rounds hd (by simp) (by omega) (by simp; omega) (rounds_gt (by omega))
  rw [List.nil_append] at hlp
  have hs : (ByteArray.size (B (l.map dg)) : Int) = ((([] : List UInt8).length + l.length : Nat) : Int) := by rw [B_size, List.length_map]; simp
  rw [tr_opt]
  unfold lex_plain.l0
  rw [hs]
  have hlp' : (iterT lex_plain.t0 rounds (B (l.map dg), (0 : Int), false, (0 : Int), ((([] : List UInt8).length + l.length : Nat) : Int), (0 : Int), ())).run = _ := hlp
  rw [hlp', Option.bind_some]
  dsimp only
  rw [tr_yes (by decide), tr_ret, B_toList]
  have hm : ByteArray.mk #[] = B [] := rfl
  rw [hm, B_toList, hs]
  cases l with
  | nil => exact absurd rfl h0
  | cons a l =>
    have : ((List.map dg (a :: l)) == []) = false := rfl
    rw [this]
    have h2 : decide (((([] : List UInt8).length + (a :: l).length : Nat) : Int) ≤ 10) = true := by
      rw [decide_eq_true_eq, List.length_nil, Nat.zero_add]; omega
    rw [h2]
    rfl

theorem plain_total (s : ByteArray) (hs : s.size ≤ 1000) : ∃ n b, lex_plain s = some (n, b) := by
  unfold lex_plain lex_plain.t
  obtain ⟨e, y, h1, h2⟩ := iter_inv (t := lex_plain.t0) (fun x => ∃ (i : Nat) (r1 : Int) (r2 : Bool) (a : Int), x = (s, r1, r2, a, (s.size : Int), (i : Int), ()) ∧ i ≤ s.size) (fun x => s.size - x.2.2.2.2.2.1.toNat) (fun e _ => e = .exit 0 ∨ e = .ret)
    (by
      rintro _ ⟨i, r1, r2, a, rfl, hi⟩
      unfold lex_plain.t0
      dsimp only
      by_cases hlt : i < s.size
      · obtain ⟨v, hv⟩ : ∃ v, sget s (i : Int) = some v := by
          rw [← B_self s, sget_B, List.getElem?_eq_getElem (by rw [Array.length_toList]; exact hlt)]
          exact ⟨_, rfl⟩
        rw [tr_yes (by rw [decide_eq_true_eq]; omega), hv, tr_opt, Option.bind_some, tr_ite]
        split
        · exact ⟨_, _, tr_ret _, .inr ⟨by simp, .inr rfl⟩⟩
        · rw [tr_opt, Option.bind_some, tr_ite]
          split
          · exact ⟨_, _, tr_ret _, .inr ⟨by simp, .inr rfl⟩⟩
          · rw [tr_opt, Option.bind_some, W_id (n := (i : Int) + 1) (by omega) (by omega)]
            refine ⟨_, _, tr_ret _, .inl ⟨rfl, ⟨i + 1, _, _, _, rfl, hlt⟩, ?_⟩⟩
            dsimp only
            omega
      · rw [tr_no (by rw [decide_eq_false_iff_not]; omega)]
        exact ⟨_, _, tr_ret _, .inr ⟨by simp, .inl rfl⟩⟩) rounds (s, (0 : Int), false, (0 : Int), (s.size : Int), (0 : Int), ()) ⟨0, 0, false, 0, rfl, by omega⟩ (rounds_gt (by dsimp only; omega))
  rw [tr_opt]
  unfold lex_plain.l0
  rw [h1, Option.bind_some, tr_ite]
  split
  · exact ⟨_, _, tr_ret _⟩
  · rename_i hn
    rcases h2 with rfl | rfl
    · exact absurd rfl hn
    · exact ⟨_, _, rfl⟩

/-! ### Number: the end of it -/
noncomputable def numFin (k : Int) (x : ByteArray) : T (Int × Bool) :=
  T.opt (lex_Text k) fun y_2 => T.ite (y_2.snd != (0 : Int) || !ByteArray.toList y_2.fst == ByteArray.toList x) (T.ret ((0 : Int), false)) (T.ret (k, true))

def goodR (x : ByteArray) (r : Int × Bool) : Prop := r = (0, false) ∨ (r.2 = true ∧ -1099511627776 ≤ r.1 ∧ r.1 ≤ 1099511627776 ∧ x = B (Tx r.1))

theorem toList_inj {x y : ByteArray} (h : x.toList = y.toList) : x = y := by
  rw [ByteArray.toList_eq, ByteArray.toList_eq] at h
  rw [← B_self x, h, B_self]

theorem fin_good (k : Int) (x : ByteArray) : ∃ r, (numFin k x).run = some r ∧ goodR x r := by
  unfold numFin
  by_cases h : -1099511627776 ≤ k ∧ k ≤ 1099511627776
  · rw [Text_eq h.1 h.2, tr_opt, Option.bind_some]
    by_cases hx : (B (Tx k)).toList = x.toList
    · rw [tr_no (by rw [hx]; simp), tr_ret]
      exact ⟨_, rfl, .inr ⟨rfl, h.1, h.2, (toList_inj hx).symm⟩⟩
    · rw [tr_yes (by simp; exact hx), tr_ret]
      exact ⟨_, rfl, .inl rfl⟩
  · rw [Text_out (by omega), tr_opt, Option.bind_some, tr_ite, if_pos (by simp), tr_ret]
    exact ⟨_, rfl, .inl rfl⟩

theorem fin_eq {k : Int} (h0 : -1099511627776 ≤ k) (h1 : k ≤ 1099511627776) : (numFin k (B (Tx k))).run = some (k, true) := by
  unfold numFin
  rw [Text_eq h0 h1, tr_opt, Option.bind_some, tr_no (by simp), tr_ret]

theorem cut_total (s : ByteArray) (c : UInt8) (hs : s.size ≤ 900) : ∃ a b f, strings_Cut (s, B [c]) = some (a, b, f) ∧ a.size ≤ s.size ∧ b.size ≤ s.size := by
  rw [← B_self s]
  have hl : s.data.toList.length = s.size := by rw [Array.length_toList]; rfl
  generalize s.data.toList = l at *
  rcases first_of c l with h | ⟨a, b, rfl, h⟩
  · exact ⟨_, _, _, cut_none h, Nat.le_refl _, by rw [B_size]; simp⟩
  · simp at hl
    exact ⟨_, _, _, cut_first h (by omega), by rw [B_size, B_size]; simp, by rw [B_size, B_size]; simp; omega⟩

theorem repeat_one (c : UInt8) : ∀ n, Lib.repeatL [c] n = List.replicate n c
  | 0 => rfl
  | n + 1 => by rw [Lib.repeatL, repeat_one c n]; rfl
theorem repB_one (c : UInt8) (n : Nat) : repB (B [c]) (n : Int) = B (List.replicate n c) := by
  unfold repB
  rw [B_data, Int.toNat_natCast, repeat_one]; rfl

theorem pad_some (z : Nat) : (if (0 : Int) > W ((10 : Int) - (z : Int)) then (0 : Int) else W ((10 : Int) - (z : Int))) = ((10 - z : Nat) : Int) ∨ ¬ z ≤ 1000 := by
  by_cases h : z ≤ 1000
  · left
    rw [W_id (by omega) (by omega)]
    split <;> omega
  · exact .inr h
end Go.Proofs.Pen

namespace Go.Proofs.Pen
open Go Go.Proofs

noncomputable def numB (x w r : ByteArray) (c : Int) : T (Int × Bool) :=
  T.opt (lex_plain w) fun y_1 => T.opt (lex_plain (r ++ repB (ByteArray.mk #[(48 : UInt8)]) c)) fun y => T.ite (!y_1.snd || !y.2) (T.ret ((0 : Int), false)) (T.ite (Int.tmod y.1 (9765625 : Int) != (0 : Int) || decide (y_1.fst > (1073741824 : Int))) (T.ret ((0 : Int), false)) (T.ite (hasP x (ByteArray.mk #[(45 : UInt8)])) (numFin (W ((0 : Int) - W (W (y_1.fst * (1024 : Int)) + W (Int.tdiv y.1 (9765625 : Int))))) x) (numFin (W (W (y_1.fst * (1024 : Int)) + W (Int.tdiv y.1 (9765625 : Int)))) x)))

theorem num_cut {x : ByteArray} (hx : x.size ≤ 40) {w r : ByteArray} {f : Bool} (hc : strings_Cut (cutP x (B [45]), B [46]) = some (w, r, f)) (hr : r.size ≤ 40) : lex_Number x = (numB x w r ((10 - r.size : Nat) : Int)).run := by
  unfold lex_Number lex_Number.t
  have h45 : ByteArray.mk #[(45 : UInt8)] = B [45] := rfl
  have h46 : ByteArray.mk #[(46 : UInt8)] = B [46] := rfl
  have h48 : ByteArray.mk #[(48 : UInt8)] = B [48] := rfl
  rw [tr_no (by simp; omega), h45, h46, hc, tr_opt, Option.bind_some]
  dsimp only
  rcases pad_some r.size with hp | hp
  · rw [hp]
    have hc1 : (decide ((0 : Int) ≤ ((10 - r.size : Nat) : Int)) && decide (((ByteArray.mk #[(48 : UInt8)]).size : Int) * ((10 - r.size : Nat) : Int) ≤ (140737488355328 : Int)) && decide (((10 - r.size : Nat) : Int) ≤ (9223372036854775807 : Int))) = true := by
      have : ((ByteArray.mk #[(48 : UInt8)]).size : Int) = 1 := rfl
      rw [this]
      simp only [Bool.and_eq_true, decide_eq_true_eq]
      omega
    have hc2 : decide (((r.size + (repB (ByteArray.mk #[(48 : UInt8)]) ((10 - r.size : Nat) : Int)).size : Nat) : Int) > IntKind.i64.max) = false := by
      rw [h48, repB_one, B_size, List.length_replicate]
      exact small (by omega)
    rw [tr_yes hc1, tr_no hc2]
    rfl
  · omega

theorem cutP_size (l : List UInt8) : (cutP (B l) (B [45])).size ≤ l.length := by
  unfold cutP Lib.trimPrefix
  rw [B_data]
  show (B _).size ≤ _
  rw [B_size]
  split
  · rw [List.length_drop]; omega
  · exact Nat.le_refl _

theorem Number_good (x : ByteArray) : ∃ r, lex_Number x = some r ∧ goodR x r := by
  by_cases hx : x.size ≤ 40
  · have hcs : (cutP x (B [45])).size ≤ x.size := by
      have := cutP_size x.data.toList
      rw [B_self, Array.length_toList] at this
      exact this
    obtain ⟨w, r, f, hc, h1, h2⟩ := cut_total (cutP x (B [45])) 46 (by omega)
    rw [num_cut hx hc (by omega)]
    obtain ⟨n1, b1, e1⟩ := plain_total w (by omega)
    have hs : (r ++ repB (ByteArray.mk #[(48 : UInt8)]) ((10 - r.size : Nat) : Int)).size ≤ 1000 := by
      have h48 : ByteArray.mk #[(48 : UInt8)] = B [48] := rfl
      rw [ByteArray.size_append, h48, repB_one, B_size, List.length_replicate]; omega
    obtain ⟨n2, b2, e2⟩ := plain_total _ hs
    unfold numB
    rw [e1, tr_opt, Option.bind_some, e2, tr_opt, Option.bind_some, tr_ite]
    split
    · exact ⟨_, tr_ret _, .inl rfl⟩
    · rw [tr_ite]
      split
      · exact ⟨_, tr_ret _, .inl rfl⟩
      · rw [tr_ite]
        split
        · exact fin_good _ _
        · exact fin_good _ _
  · unfold lex_Number lex_Number.t
    rw [tr_yes (by simp; omega)]
    exact ⟨_, tr_ret _, .inl rfl⟩

/-! ### There and back -/
theorem mem_dgs {f n : Nat} {b : UInt8} (h : b ∈ dgs f n) : ∃ d, d < 10 ∧ b = dg d := by
  unfold dgs at h
  obtain ⟨d, h1, rfl⟩ := List.mem_map.1 h
  exact ⟨d, rdig_lt _ _ _ d (List.mem_reverse.1 h1), rfl⟩
theorem dg_ne {d : Nat} (h : d < 10) {c : UInt8} (hc : c.toNat < 48) : dg d ≠ c := fun e => by
  have := congrArg UInt8.toNat e
  rw [dg_nat h] at this
  omega
theorem dgs_no {f n : Nat} {c : UInt8} (hc : c.toNat < 48) : c ∉ dgs f n := fun h => by
  obtain ⟨d, h1, h2⟩ := mem_dgs h
  exact dg_ne h1 hc h2.symm
theorem fr_pad : ((List.range 1024).all fun f => hor 0 (fr 10 f ++ List.replicate (10 - (fr 10 f).length) 0) == f * 9765625) = true := by kernel_rfl

theorem dgs_ne {f n : Nat} : ∃ d l, d < 10 ∧ dgs (f + 1) n = dg d :: l := by
  have h1 := rdig_pos f n
  cases h : (rdig (f + 1) n 1).reverse with
  | nil =>
    have := congrArg List.length h
    rw [List.length_reverse] at this
    simp at this
    rw [this] at h1; simp at h1
  | cons d l =>
    refine ⟨d, l.map dg, rdig_lt (f + 1) n 1 d (List.mem_reverse.1 (by rw [h]; simp)), ?_⟩
    unfold dgs
    rw [h]; rfl

theorem cutP_neg (l : List UInt8) : cutP (B (45 :: l)) (B [45]) = B l ∧ hasP (B (45 :: l)) (B [45]) = true := by
  unfold cutP hasP Lib.trimPrefix Lib.hasPrefix
  rw [B_data, B_data]
  simp [List.isPrefixOf]
  rfl
theorem cutP_pos {l : List UInt8} {a : UInt8} (h : a ≠ 45) : cutP (B (a :: l)) (B [45]) = B (a :: l) ∧ hasP (B (a :: l)) (B [45]) = false := by
  have h' : (45 == a) = false := by simpa using fun e => h e.symm
  unfold cutP hasP Lib.trimPrefix Lib.hasPrefix
  rw [B_data, B_data]
  simp [List.isPrefixOf, h']
  rfl

theorem cut_Nx (n : Nat) : ∃ f, strings_Cut (B (Nx n), B [46]) = some (B (dgs 10 (n / 1024)), B (fx (n % 1024)), f) := by
  unfold Nx
  split
  · rename_i h
    refine ⟨false, ?_⟩
    rw [List.append_nil, cut_none (dgs_no (by decide)), h]
    rfl
  · exact ⟨_, cut_first (dgs_no (by decide)) (by have := dgs_len 10 (n / 1024); have := fx_len (n % 1024); omega)⟩

theorem numB_eq (x : ByteArray) {n : Nat} (h : n ≤ 1099511627776) : (numB x (B (dgs 10 (n / 1024))) (B (fx (n % 1024))) ((10 - (B (fx (n % 1024))).size : Nat) : Int)).run =
    (T.ite (hasP x (B [45])) (numFin (-(n : Int)) x) (numFin n x)).run := by
  have h48 : ByteArray.mk #[(48 : UInt8)] = B [48] := rfl
  have h1 : lex_plain (B (dgs 10 (n / 1024))) = some (((n / 1024 : Nat) : Int), true) := by
    have := plain_eq (l := (rdig 10 (n / 1024) 1).reverse) (fun d hd => rdig_lt _ _ _ d (List.mem_reverse.1 hd)) (fun e => by
      have h2 := rdig_pos 9 (n / 1024)
      have := congrArg List.length e
      rw [List.length_reverse] at this
      simp at this
      rw [this] at h2; simp at h2) (by rw [List.length_reverse]; exact rdig_len _ _ _)
    rw [hor_rdig 10 _ _ (by omega)] at this
    exact this
  have hfl := fr_len 10 (n % 1024)
  have h2 : lex_plain (B (fx (n % 1024)) ++ repB (ByteArray.mk #[(48 : UInt8)]) ((10 - (B (fx (n % 1024))).size : Nat) : Int)) = some (((n % 1024 * 9765625 : Nat) : Int), true) := by
    have hfx : (B (fx (n % 1024))).size = (fr 10 (n % 1024)).length := by rw [B_size]; unfold fx; rw [List.length_map]
    rw [h48, repB_one, B_app, hfx]
    have hr : List.replicate (10 - (fr 10 (n % 1024)).length) (48 : UInt8) = (List.replicate (10 - (fr 10 (n % 1024)).length) 0).map dg := by
      rw [List.map_replicate]; rfl
    unfold fx
    rw [hr, ← List.map_append]
    have hlen : (fr 10 (n % 1024) ++ List.replicate (10 - (fr 10 (n % 1024)).length) 0).length = 10 := by
      rw [List.length_append, List.length_replicate]; omega
    have := plain_eq (l := fr 10 (n % 1024) ++ List.replicate (10 - (fr 10 (n % 1024)).length) 0) (fun d hd => by
      rcases List.mem_append.1 hd with hd | hd
      · exact fr_lt 10 _ (by omega) d hd
      · rw [List.eq_of_mem_replicate hd]; omega) (fun e => by rw [e] at hlen; simp at hlen) (by omega)
    have hp := List.all_eq_true.1 fr_pad (n % 1024) (List.mem_range.2 (by omega))
    rw [eq_of_beq hp] at this
    exact this
  unfold numB
  have e1 : (((n % 1024 * 9765625 : Nat) : Int).tmod 9765625 != 0) = false := by
    rw [Int.tmod_eq_emod_of_nonneg (by omega)]
    have : ((n % 1024 * 9765625 : Nat) : Int) % 9765625 = 0 := by omega
    rw [this]; rfl
  have e2 : W (((n % 1024 * 9765625 : Nat) : Int).tdiv 9765625) = ((n % 1024 : Nat) : Int) := by
    rw [Int.tdiv_eq_ediv_of_nonneg (by omega), W_id (by omega) (by omega)]; omega
  have e3 : W (W (((n / 1024 : Nat) : Int) * 1024) + ((n % 1024 : Nat) : Int)) = (n : Int) := by
    rw [W_id (n := ((n / 1024 : Nat) : Int) * 1024) (by omega) (by omega), W_id (by omega) (by omega)]; omega
  have e4 : W (0 - (n : Int)) = -(n : Int) := by rw [W_id (by omega) (by omega)]; omega
  rw [h1, tr_opt, Option.bind_some, h2, tr_opt, Option.bind_some]
  dsimp only
  rw [tr_no (b := !true || !true) rfl, tr_no (by rw [e1, Bool.false_or, decide_eq_false_iff_not]; omega), e2, e3, e4]
  rfl

theorem Number_back {k : Int} (h0 : -1099511627776 ≤ k) (h1 : k ≤ 1099511627776) : lex_Number (B (Tx k)) = some (k, true) := by
  have hl := Nx_len k.natAbs
  have hsz : (B (Tx k)).size ≤ 40 := by
    rw [B_size]; unfold Tx; rw [List.length_append]; split <;> simp <;> omega
  obtain ⟨f, hf⟩ := cut_Nx k.natAbs
  have hr : (B (fx (k.natAbs % 1024))).size ≤ 40 := by rw [B_size]; have := fx_len (k.natAbs % 1024); omega
  by_cases hk : k < 0
  · have hT : Tx k = 45 :: Nx k.natAbs := by unfold Tx; rw [if_pos hk]; rfl
    obtain ⟨c1, c2⟩ := cutP_neg (Nx k.natAbs)
    rw [num_cut hsz (by rw [hT, c1]; exact hf) hr, numB_eq _ (by omega), hT, c2, tr_yes rfl, ← hT, show -(k.natAbs : Int) = k by omega]
    exact fin_eq h0 h1
  · have hT : Tx k = Nx k.natAbs := by unfold Tx; rw [if_neg hk]; rfl
    obtain ⟨d, l, hd, e⟩ := dgs_ne (f := 9) (n := k.natAbs / 1024)
    obtain ⟨c1, c2⟩ : cutP (B (Nx k.natAbs)) (B [45]) = B (Nx k.natAbs) ∧ hasP (B (Nx k.natAbs)) (B [45]) = false := by
      unfold Nx
      rw [e, List.cons_append]
      exact cutP_pos (dg_ne hd (by decide))
    rw [num_cut hsz (by rw [hT, c1]; exact hf) hr, numB_eq _ (by omega), hT, c2, tr_no rfl, ← hT, show (k.natAbs : Int) = k by omega]
    exact fin_eq h0 h1
end Go.Proofs.Pen

namespace Go.Proofs.Pen
open Go Go.Proofs
def ref23_Number.L0 : List (Nat × Lay) := [(0, .val .str), (4, .val TI), (5, .val TI), (6, .val TI)]
noncomputable def ref23_Number.t0 (x : ByteArray × Int × Int × Int × Unit) : T (Ex × ByteArray × Int × Int × Int × Unit) := T.ite (decide (x.2.1 < (↑(ByteArray.size x.1) : Int))) (T.opt (sget x.1 x.2.1) fun y => T.ite (decide (y ≥ (48 : Int))) (T.opt (sget x.1 x.2.1) fun y => T.ite (decide (y ≤ (57 : Int)) && decide (W (x.2.1 - x.2.2.2.1) < (12 : Int))) (T.opt (sget x.1 x.2.1) fun y => T.ret (Ex.normal, x.1, W (x.2.1 + (1 : Int)), W (W (W ((10 : Int) * x.2.2.1) + W y) - (48 : Int)), x.2.2.2.1, ())) (T.ret (Ex.exit (0 : Nat), x.1, x.2.1, x.2.2.1, x.2.2.2.1, ()))) (T.ret (Ex.exit (0 : Nat), x.1, x.2.1, x.2.2.1, x.2.2.2.1, ()))) (T.ret (Ex.exit (0 : Nat), x.1, x.2.1, x.2.2.1, x.2.2.2.1, ()))
noncomputable def ref23_Number.l0 (x : ByteArray × Int × Int × Int × Unit) : Option (Ex × ByteArray × Int × Int × Int × Unit) := (iterT ref23_Number.t0 rounds x).run
theorem ref23_Number.k0 : bodies 0 (lp Tryd.f11 []) = [.loop (loopIn 0 (lp Tryd.f11 []))] ∧ WP Tryd.prog 0 (.block 0 (.loop (loopIn 0 (lp Tryd.f11 [])))) (loopS ref23_Number.L0 135 0 [.exit 0] ref23_Number.l0) :=
  loop_tree (L := ref23_Number.L0) (F := ({ quiet := (ext (ext Xs 10 txt0.q) 10 txt1.q), deep := noDeep } : Fns)) (D := D0) (tab := []) (t := ref23_Number.t0) mixed (quiet_ext (quiet_ext Xok txt0.ok) txt1.ok) (deep_none _) (fun _ => rfl) (by kernel_rfl) (by kernel_rfl) trivial (fun x => by kernel_rfl)
def ref23_Number.L2 : List (Nat × Lay) := [(0, .val .str), (4, .val TI), (7, .val TI), (8, .val TI), (9, .val TI), (10, .val TI)]
noncomputable def ref23_Number.t2 (x : ByteArray × Int × Int × Int × Int × Int × Unit) : T (Ex × ByteArray × Int × Int × Int × Int × Int × Unit) := T.ite (decide (x.2.1 < (↑(ByteArray.size x.1) : Int))) (T.opt (sget x.1 x.2.1) fun y => T.ite (decide (y ≥ (48 : Int))) (T.opt (sget x.1 x.2.1) fun y => T.ite (decide (y ≤ (57 : Int)) && decide (W (x.2.1 - x.2.2.2.2.1) < (10 : Int))) (T.opt (sget x.1 x.2.1) fun y => T.ret (Ex.normal, x.1, W (x.2.1 + (1 : Int)), x.2.2.1, W (x.2.2.2.1 - (1 : Int)), x.2.2.2.2.1, W (W (W ((10 : Int) * x.2.2.2.2.2.1) + W y) - (48 : Int)), ())) (T.ret (Ex.exit (2 : Nat), x.1, x.2.1, x.2.2.1, x.2.2.2.1, x.2.2.2.2.1, x.2.2.2.2.2.1, ()))) (T.ret (Ex.exit (2 : Nat), x.1, x.2.1, x.2.2.1, x.2.2.2.1, x.2.2.2.2.1, x.2.2.2.2.2.1, ()))) (T.ret (Ex.exit (2 : Nat), x.1, x.2.1, x.2.2.1, x.2.2.2.1, x.2.2.2.2.1, x.2.2.2.2.2.1, ()))
noncomputable def ref23_Number.l2 (x : ByteArray × Int × Int × Int × Int × Int × Unit) : Option (Ex × ByteArray × Int × Int × Int × Int × Int × Unit) := (iterT ref23_Number.t2 rounds x).run
theorem ref23_Number.k2 : bodies 2 (lp Tryd.f11 []) = [.loop (loopIn 2 (lp Tryd.f11 []))] ∧ WP Tryd.prog 0 (.block 2 (.loop (loopIn 2 (lp Tryd.f11 [])))) (loopS ref23_Number.L2 135 2 [.exit 2] ref23_Number.l2) :=
  loop_tree (L := ref23_Number.L2) (F := ({ quiet := (ext (ext Xs 10 txt0.q) 10 txt1.q), deep := noDeep } : Fns)) (D := D0) (tab := []) (t := ref23_Number.t2) mixed (quiet_ext (quiet_ext Xok txt0.ok) txt1.ok) (deep_none _) (fun _ => rfl) (by kernel_rfl) (by kernel_rfl) trivial (fun x => by kernel_rfl)
def ref23_Number.L4 : List (Nat × Lay) := [(0, .val .str), (4, .val TI), (7, .val TI), (8, .val TI), (10, .val TI)]
noncomputable def ref23_Number.t4 (x : ByteArray × Int × Int × Int × Int × Unit) : T (Ex × ByteArray × Int × Int × Int × Int × Unit) := T.ite (decide (x.2.2.2.1 > (0 : Int))) (T.ret (Ex.normal, x.1, x.2.1, x.2.2.1, W (x.2.2.2.1 - (1 : Int)), W (x.2.2.2.2.1 * (10 : Int)), ())) (T.ret (Ex.exit (4 : Nat), x.1, x.2.1, x.2.2.1, x.2.2.2.1, x.2.2.2.2.1, ()))
noncomputable def ref23_Number.l4 (x : ByteArray × Int × Int × Int × Int × Unit) : Option (Ex × ByteArray × Int × Int × Int × Int × Unit) := (iterT ref23_Number.t4 rounds x).run
theorem ref23_Number.k4 : bodies 4 (lp Tryd.f11 []) = [.loop (loopIn 4 (lp Tryd.f11 []))] ∧ WP Tryd.prog 0 (.block 4 (.loop (loopIn 4 (lp Tryd.f11 [])))) (loopS ref23_Number.L4 135 4 [.exit 4] ref23_Number.l4) :=
  loop_tree (L := ref23_Number.L4) (F := ({ quiet := (ext (ext Xs 10 txt0.q) 10 txt1.q), deep := noDeep } : Fns)) (D := D0) (tab := []) (t := ref23_Number.t4) mixed (quiet_ext (quiet_ext Xok txt0.ok) txt1.ok) (deep_none _) (fun _ => rfl) (by kernel_rfl) (by kernel_rfl) trivial (fun x => by kernel_rfl)
noncomputable def ref23_Number.t (x : ByteArray) : T (Int × Bool) := T.ite ((↑(ByteArray.size x) : Int) == (0 : Int) || decide ((↑(ByteArray.size x) : Int) > (24 : Int))) (T.ret ((0 : Int), false)) (T.opt (sget x (0 : Int)) fun y => T.ite (y == (45 : Int)) (T.opt (ref23_Number.l0 (x, (1 : Int), (0 : Int), (1 : Int), ())) fun y => T.ite (exEq y.1 (Ex.exit (0 : Nat))) (T.ite (decide (y.2.2.1 < (↑(ByteArray.size y.2.1) : Int))) (T.opt (sget y.2.1 y.2.2.1) fun y_1 => T.ite (y_1 == (46 : Int)) (T.opt (ref23_Number.l2 (y.2.1, W (y.2.2.1 + (1 : Int)), W (y.2.2.2.1 * (1024 : Int)), (10 : Int), W (y.2.2.1 + (1 : Int)), (0 : Int), ())) fun y => T.ite (exEq y.1 (Ex.exit (2 : Nat))) (T.opt (ref23_Number.l4 (y.2.1, y.2.2.1, y.2.2.2.1, y.2.2.2.2.1, y.2.2.2.2.2.2.1, ())) fun y => T.ite (exEq y.1 (Ex.exit (4 : Nat))) (T.ite (Int.tmod y.2.2.2.2.2.1 (9765625 : Int) != (0 : Int)) (T.ret ((0 : Int), false)) (T.ite (y.2.2.1 != (↑(ByteArray.size y.2.1) : Int) || decide (W (y.2.2.2.1 + W (Int.tdiv y.2.2.2.2.2.1 (9765625 : Int))) > (1099511627776 : Int))) (T.ret ((0 : Int), false)) (T.opt (sget y.2.1 (0 : Int)) fun y_2 => T.ite (y_2 == (45 : Int)) (T.opt (txt1 (W ((0 : Int) - W (y.2.2.2.1 + W (Int.tdiv y.2.2.2.2.2.1 (9765625 : Int)))))) fun y_3 => T.ret (W ((0 : Int) - W (y.2.2.2.1 + W (Int.tdiv y.2.2.2.2.2.1 (9765625 : Int)))), y_3.toList == ByteArray.toList y.2.1)) (T.opt (txt1 (W (y.2.2.2.1 + W (Int.tdiv y.2.2.2.2.2.1 (9765625 : Int))))) fun y_3 => T.ret (W (y.2.2.2.1 + W (Int.tdiv y.2.2.2.2.2.1 (9765625 : Int))), y_3.toList == ByteArray.toList y.2.1))))) T.fail) T.fail) (T.ite (y.2.2.1 != (↑(ByteArray.size y.2.1) : Int) || decide (W (y.2.2.2.1 * (1024 : Int)) > (1099511627776 : Int))) (T.ret ((0 : Int), false)) (T.opt (sget y.2.1 (0 : Int)) fun y_2 => T.ite (y_2 == (45 : Int)) (T.opt (txt1 (W ((0 : Int) - W (y.2.2.2.1 * (1024 : Int))))) fun y_3 => T.ret (W ((0 : Int) - W (y.2.2.2.1 * (1024 : Int))), y_3.toList == ByteArray.toList y.2.1)) (T.opt (txt1 (W (y.2.2.2.1 * (1024 : Int)))) fun y_3 => T.ret (W (y.2.2.2.1 * (1024 : Int)), y_3.toList == ByteArray.toList y.2.1))))) (T.ite (y.2.2.1 != (↑(ByteArray.size y.2.1) : Int) || decide (W (y.2.2.2.1 * (1024 : Int)) > (1099511627776 : Int))) (T.ret ((0 : Int), false)) (T.opt (sget y.2.1 (0 : Int)) fun y_1 => T.ite (y_1 == (45 : Int)) (T.opt (txt1 (W ((0 : Int) - W (y.2.2.2.1 * (1024 : Int))))) fun y_2 => T.ret (W ((0 : Int) - W (y.2.2.2.1 * (1024 : Int))), y_2.toList == ByteArray.toList y.2.1)) (T.opt (txt1 (W (y.2.2.2.1 * (1024 : Int)))) fun y_2 => T.ret (W (y.2.2.2.1 * (1024 : Int)), y_2.toList == ByteArray.toList y.2.1))))) T.fail) (T.opt (ref23_Number.l0 (x, (0 : Int), (0 : Int), (0 : Int), ())) fun y => T.ite (exEq y.1 (Ex.exit (0 : Nat))) (T.ite (decide (y.2.2.1 < (↑(ByteArray.size y.2.1) : Int))) (T.opt (sget y.2.1 y.2.2.1) fun y_1 => T.ite (y_1 == (46 : Int)) (T.opt (ref23_Number.l2 (y.2.1, W (y.2.2.1 + (1 : Int)), W (y.2.2.2.1 * (1024 : Int)), (10 : Int), W (y.2.2.1 + (1 : Int)), (0 : Int), ())) fun y => T.ite (exEq y.1 (Ex.exit (2 : Nat))) (T.opt (ref23_Number.l4 (y.2.1, y.2.2.1, y.2.2.2.1, y.2.2.2.2.1, y.2.2.2.2.2.2.1, ())) fun y => T.ite (exEq y.1 (Ex.exit (4 : Nat))) (T.ite (Int.tmod y.2.2.2.2.2.1 (9765625 : Int) != (0 : Int)) (T.ret ((0 : Int), false)) (T.ite (y.2.2.1 != (↑(ByteArray.size y.2.1) : Int) || decide (W (y.2.2.2.1 + W (Int.tdiv y.2.2.2.2.2.1 (9765625 : Int))) > (1099511627776 : Int))) (T.ret ((0 : Int), false)) (T.opt (sget y.2.1 (0 : Int)) fun y_2 => T.ite (y_2 == (45 : Int)) (T.opt (txt1 (W ((0 : Int) - W (y.2.2.2.1 + W (Int.tdiv y.2.2.2.2.2.1 (9765625 : Int)))))) fun y_3 => T.ret (W ((0 : Int) - W (y.2.2.2.1 + W (Int.tdiv y.2.2.2.2.2.1 (9765625 : Int)))), y_3.toList == ByteArray.toList y.2.1)) (T.opt (txt1 (W (y.2.2.2.1 + W (Int.tdiv y.2.2.2.2.2.1 (9765625 : Int))))) fun y_3 => T.ret (W (y.2.2.2.1 + W (Int.tdiv y.2.2.2.2.2.1 (9765625 : Int))), y_3.toList == ByteArray.toList y.2.1))))) T.fail) T.fail) (T.ite (y.2.2.1 != (↑(ByteArray.size y.2.1) : Int) || decide (W (y.2.2.2.1 * (1024 : Int)) > (1099511627776 : Int))) (T.ret ((0 : Int), false)) (T.opt (sget y.2.1 (0 : Int)) fun y_2 => T.ite (y_2 == (45 : Int)) (T.opt (txt1 (W ((0 : Int) - W (y.2.2.2.1 * (1024 : Int))))) fun y_3 => T.ret (W ((0 : Int) - W (y.2.2.2.1 * (1024 : Int))), y_3.toList == ByteArray.toList y.2.1)) (T.opt (txt1 (W (y.2.2.2.1 * (1024 : Int)))) fun y_3 => T.ret (W (y.2.2.2.1 * (1024 : Int)), y_3.toList == ByteArray.toList y.2.1))))) (T.ite (y.2.2.1 != (↑(ByteArray.size y.2.1) : Int) || decide (W (y.2.2.2.1 * (1024 : Int)) > (1099511627776 : Int))) (T.ret ((0 : Int), false)) (T.opt (sget y.2.1 (0 : Int)) fun y_1 => T.ite (y_1 == (45 : Int)) (T.opt (txt1 (W ((0 : Int) - W (y.2.2.2.1 * (1024 : Int))))) fun y_2 => T.ret (W ((0 : Int) - W (y.2.2.2.1 * (1024 : Int))), y_2.toList == ByteArray.toList y.2.1)) (T.opt (txt1 (W (y.2.2.2.1 * (1024 : Int)))) fun y_2 => T.ret (W (y.2.2.2.1 * (1024 : Int)), y_2.toList == ByteArray.toList y.2.1))))) T.fail))
noncomputable def ref23_Number (x : ByteArray) : Option (Int × Bool) := (ref23_Number.t x).run
noncomputable def ref23_Number.q : List AV → T AV := entry [.str] (outR [TI, .bool]) fun x => .opt (ref23_Number x) .ret
theorem ref23_Number.ok : FnOK Tryd.prog 11 ref23_Number.q :=
  entry_call (ps := [.str]) (rs := [TI, .bool]) (F := ({ quiet := (ext (ext Xs 10 txt0.q) 10 txt1.q), deep := noDeep } : Fns)) (D := D0) (S := tabS [(0, loopS ref23_Number.L0 135 0 [.exit 0] ref23_Number.l0), (2, loopS ref23_Number.L2 135 2 [.exit 2] ref23_Number.l2), (4, loopS ref23_Number.L4 135 4 [.exit 4] ref23_Number.l4)]) (t := ref23_Number.t) mixed (quiet_ext (quiet_ext Xok txt0.ok) txt1.ok) (deep_none _) Tryd.func11 (by kernel_rfl) (sok_fn ⟨ref23_Number.k0, ref23_Number.k2, ref23_Number.k4, trivial⟩) (by kernel_rfl) (fun x => by kernel_rfl)
end Go.Proofs.Pen

namespace Go.Proofs.Pen
open Go Go.Proofs

/-- The digits at the beginning, at most so many. -/
def takeD : Nat → List UInt8 → List Nat × List UInt8
  | 0, l => ([], l)
  | _ + 1, [] => ([], [])
  | c + 1, b :: l => if 48 ≤ b.toNat ∧ b.toNat ≤ 57 then ((b.toNat - 48) :: (takeD c l).1, (takeD c l).2) else ([], b :: l)
theorem takeD_lt : ∀ (c : Nat) (l : List UInt8), ∀ d ∈ (takeD c l).1, d < 10
  | 0, _ => by simp [takeD]
  | _ + 1, [] => by simp [takeD]
  | c + 1, b :: l => by
    simp only [takeD]
    split
    · intro d hd
      rcases List.mem_cons.1 hd with rfl | hd
      · omega
      · exact takeD_lt c l d hd
    · simp
theorem takeD_len : ∀ (c : Nat) (l : List UInt8), (takeD c l).1.length ≤ c
  | 0, _ => by simp [takeD]
  | _ + 1, [] => by simp [takeD]
  | c + 1, b :: l => by
    simp only [takeD]
    split
    · have := takeD_len c l; simp only [List.length_cons]; omega
    · simp
theorem takeD_app : ∀ (c : Nat) (l : List UInt8), (takeD c l).1.map dg ++ (takeD c l).2 = l
  | 0, _ => by simp [takeD]
  | _ + 1, [] => by simp [takeD]
  | c + 1, b :: l => by
    simp only [takeD]
    split
    · have := takeD_app c l
      have hb : dg (b.toNat - 48) = b := by
        apply UInt8.toNat_inj.1
        rw [dg_nat (by omega)]; omega
      rw [List.map_cons, hb, List.cons_append, this]
    · rfl
theorem takeD_dg : ∀ (c : Nat) (l : List Nat) (r : List UInt8), (∀ d ∈ l, d < 10) → l.length ≤ c → (r = [] ∨ ∃ b r', r = b :: r' ∧ b.toNat < 48) → takeD c (l.map dg ++ r) = (l, r)
  | 0, [], r, _, _, _ => rfl
  | 0, a :: l, r, _, h, _ => by simp at h
  | c + 1, [], r, _, _, h => by
    rcases h with rfl | ⟨b, r', rfl, hb⟩
    · rfl
    · simp only [List.map_nil, List.nil_append, takeD]
      rw [if_neg (by omega)]
  | c + 1, a :: l, r, hl, h, hr => by
    have ha := hl a (by simp)
    simp only [List.map_cons, List.cons_append, takeD]
    rw [takeD_dg c l r (fun d hd => hl d (by simp [hd])) (by simp at h; omega) hr, dg_nat ha, if_pos (by omega)]
    simp

theorem sget_mid (pre : List UInt8) (b : UInt8) (l : List UInt8) : sget (B (pre ++ b :: l)) (pre.length : Int) = some (b.toNat : Int) := by
  rw [sget_B, List.getElem?_append_right (Nat.le_refl _), Nat.sub_self, List.getElem?_cons_zero, Option.map_some]

theorem l0_loop : ∀ (c : Nat) (l pre : List UInt8) (a j s m : Nat), a < 10 ^ j → j + c ≤ 16 → pre.length + l.length ≤ 100 → pre.length + c = s + 12 → c < m →
    (iterT ref23_Number.t0 m (B (pre ++ l), (pre.length : Int), (a : Int), (s : Int), ())).run = some (.exit 0, B (pre ++ l), ((pre.length + (takeD c l).1.length : Nat) : Int), (hor a (takeD c l).1 : Int), (s : Int), ())
  | c, l, pre, a, j, s, 0, _, _, _, _, hm => absurd hm (Nat.not_lt_zero _)
  | c, [], pre, a, j, s, m + 1, ha, hj, hp, hc, hm => by
    have hd : takeD c [] = ([], []) := by cases c <;> rfl
    have e : (ref23_Number.t0 (B (pre ++ []), (pre.length : Int), (a : Int), (s : Int), ())).run = some (.exit 0, B (pre ++ []), (pre.length : Int), (a : Int), (s : Int), ()) := by
      unfold ref23_Number.t0
      dsimp only
      rw [tr_no (by rw [B_size]; simp), tr_ret]
    rw [iter_step e, hd]
    rfl
  | 0, b :: l, pre, a, j, s, m + 1, ha, hj, hp, hc, hm => by
    have e : (ref23_Number.t0 (B (pre ++ b :: l), (pre.length : Int), (a : Int), (s : Int), ())).run = some (.exit 0, B (pre ++ b :: l), (pre.length : Int), (a : Int), (s : Int), ()) := by
      unfold ref23_Number.t0
      dsimp only
      rw [tr_yes (by rw [B_size, decide_eq_true_eq]; simp; omega), sget_mid, tr_opt, Option.bind_some, tr_ite]
      split
      · rw [tr_opt, Option.bind_some, tr_no (by
          rw [W_id (by omega) (by omega), Bool.and_eq_false_iff]
          exact .inr (by rw [decide_eq_false_iff_not]; omega)), tr_ret]
      · rw [tr_ret]
    rw [iter_step e]
    rfl
  | c + 1, b :: l, pre, a, j, s, m + 1, ha, hj, hp, hc, hm => by
    by_cases hb : 48 ≤ b.toNat ∧ b.toNat ≤ 57
    · have hlt : a < 10 ^ 15 := Nat.lt_of_lt_of_le ha (Nat.pow_le_pow_right (by omega) (by omega))
      have e : (ref23_Number.t0 (B (pre ++ b :: l), (pre.length : Int), (a : Int), (s : Int), ())).run = some (.normal, B ((pre ++ [b]) ++ l), (((pre ++ [b]).length : Nat) : Int), ((10 * a + (b.toNat - 48) : Nat) : Int), (s : Int), ()) := by
        unfold ref23_Number.t0
        dsimp only
        have hp' : pre.length + l.length + 1 ≤ 100 := by simp at hp; omega
        rw [tr_yes (by rw [B_size, decide_eq_true_eq]; simp; omega), sget_mid, tr_opt, Option.bind_some, tr_yes (by rw [decide_eq_true_eq]; omega), tr_opt, Option.bind_some, tr_yes (by
          rw [W_id (by omega) (by omega), Bool.and_eq_true, decide_eq_true_eq, decide_eq_true_eq]; omega), tr_opt, Option.bind_some, tr_ret]
        rw [W_id (n := (b.toNat : Int)) (by omega) (by omega), W_id (n := 10 * (a : Int)) (by omega) (by omega), W_id (n := 10 * (a : Int) + _) (by omega) (by omega), W_id (by omega) (by omega), W_id (by omega) (by omega)]
        have e1 : pre ++ b :: l = (pre ++ [b]) ++ l := by simp
        have e2 : 10 * (a : Int) + (b.toNat : Int) - 48 = ((10 * a + (b.toNat - 48) : Nat) : Int) := by omega
        have e3 : (pre.length : Int) + 1 = (((pre ++ [b]).length : Nat) : Int) := by simp
        rw [e1, e2, e3]
      rw [iter_step e]
      show (iterT ref23_Number.t0 m _).run = _
      rw [l0_loop c l (pre ++ [b]) (10 * a + (b.toNat - 48)) (j + 1) s m (by rw [Nat.pow_succ]; omega) (by omega) (by simp at hp ⊢; omega) (by simp; omega) (by omega)]
      simp only [takeD, if_pos hb, hor_cons, List.length_cons, List.length_append, List.append_assoc, List.cons_append, List.nil_append, List.length_nil]
      rw [show pre.length + (0 + 1) + (takeD c l).1.length = pre.length + ((takeD c l).1.length + 1) by omega]
    · have e : (ref23_Number.t0 (B (pre ++ b :: l), (pre.length : Int), (a : Int), (s : Int), ())).run = some (.exit 0, B (pre ++ b :: l), (pre.length : Int), (a : Int), (s : Int), ()) := by
        unfold ref23_Number.t0
        dsimp only
        rw [tr_yes (by rw [B_size, decide_eq_true_eq]; simp; omega), sget_mid, tr_opt, Option.bind_some, tr_ite]
        split
        · rename_i h1
          rw [decide_eq_true_eq] at h1
          rw [tr_opt, Option.bind_some, tr_no (by
            rw [Bool.and_eq_false_iff]
            exact .inl (by rw [decide_eq_false_iff_not]; omega)), tr_ret]
        · rw [tr_ret]
      rw [iter_step e]
      simp only [takeD, if_neg hb]
      rfl

theorem l2_loop : ∀ (c : Nat) (l pre : List UInt8) (a j s m : Nat) (k : Int), a < 10 ^ j → j + c ≤ 16 → pre.length + l.length ≤ 100 → pre.length + c = s + 10 → c < m →
    (iterT ref23_Number.t2 m (B (pre ++ l), (pre.length : Int), k, (c : Int), (s : Int), (a : Int), ())).run = some (.exit 2, B (pre ++ l), ((pre.length + (takeD c l).1.length : Nat) : Int), k, ((c - (takeD c l).1.length : Nat) : Int), (s : Int), (hor a (takeD c l).1 : Int), ())
  | c, l, pre, a, j, s, 0, k, _, _, _, _, hm => absurd hm (Nat.not_lt_zero _)
  | c, [], pre, a, j, s, m + 1, k, ha, hj, hp, hc, hm => by
    have hd : takeD c [] = ([], []) := by cases c <;> rfl
    have e : (ref23_Number.t2 (B (pre ++ []), (pre.length : Int), k, (c : Int), (s : Int), (a : Int), ())).run = some (.exit 2, B (pre ++ []), (pre.length : Int), k, (c : Int), (s : Int), (a : Int), ()) := by
      unfold ref23_Number.t2
      dsimp only
      rw [tr_no (by rw [B_size]; simp), tr_ret]
    rw [iter_step e, hd]
    rfl
  | 0, b :: l, pre, a, j, s, m + 1, k, ha, hj, hp, hc, hm => by
    have e : (ref23_Number.t2 (B (pre ++ b :: l), (pre.length : Int), k, ((0 : Nat) : Int), (s : Int), (a : Int), ())).run = some (.exit 2, B (pre ++ b :: l), (pre.length : Int), k, ((0 : Nat) : Int), (s : Int), (a : Int), ()) := by
      unfold ref23_Number.t2
      dsimp only
      rw [tr_yes (by rw [B_size, decide_eq_true_eq]; simp; omega), sget_mid, tr_opt, Option.bind_some, tr_ite]
      split
      · rw [tr_opt, Option.bind_some, tr_no (by
          rw [W_id (by omega) (by omega), Bool.and_eq_false_iff]
          exact .inr (by rw [decide_eq_false_iff_not]; omega)), tr_ret]
      · rw [tr_ret]
    rw [iter_step e]
    rfl
  | c + 1, b :: l, pre, a, j, s, m + 1, k, ha, hj, hp, hc, hm => by
    by_cases hb : 48 ≤ b.toNat ∧ b.toNat ≤ 57
    · have hlt : a < 10 ^ 15 := Nat.lt_of_lt_of_le ha (Nat.pow_le_pow_right (by omega) (by omega))
      have e : (ref23_Number.t2 (B (pre ++ b :: l), (pre.length : Int), k, ((c + 1 : Nat) : Int), (s : Int), (a : Int), ())).run = some (.normal, B ((pre ++ [b]) ++ l), (((pre ++ [b]).length : Nat) : Int), k, (c : Int), (s : Int), ((10 * a + (b.toNat - 48) : Nat) : Int), ()) := by
        unfold ref23_Number.t2
        dsimp only
        have hp' : pre.length + l.length + 1 ≤ 100 := by simp at hp; omega
        rw [tr_yes (by rw [B_size, decide_eq_true_eq]; simp; omega), sget_mid, tr_opt, Option.bind_some, tr_yes (by rw [decide_eq_true_eq]; omega), tr_opt, Option.bind_some, tr_yes (by
          rw [W_id (by omega) (by omega), Bool.and_eq_true, decide_eq_true_eq, decide_eq_true_eq]; omega), tr_opt, Option.bind_some, tr_ret]
        rw [W_id (n := (b.toNat : Int)) (by omega) (by omega), W_id (n := 10 * (a : Int)) (by omega) (by omega), W_id (n := 10 * (a : Int) + _) (by omega) (by omega), W_id (n := (pre.length : Int) + 1) (by omega) (by omega), W_id (n := ((c + 1 : Nat) : Int) - 1) (by omega) (by omega), W_id (by omega) (by omega)]
        have e1 : pre ++ b :: l = (pre ++ [b]) ++ l := by simp
        have e2 : 10 * (a : Int) + (b.toNat : Int) - 48 = ((10 * a + (b.toNat - 48) : Nat) : Int) := by omega
        have e3 : (pre.length : Int) + 1 = (((pre ++ [b]).length : Nat) : Int) := by simp
        have e4 : ((c + 1 : Nat) : Int) - 1 = (c : Int) := by omega
        rw [e1, e2, e3, e4]
      rw [iter_step e]
      show (iterT ref23_Number.t2 m _).run = _
      rw [l2_loop c l (pre ++ [b]) (10 * a + (b.toNat - 48)) (j + 1) s m k (by rw [Nat.pow_succ]; omega) (by omega) (by simp at hp ⊢; omega) (by simp; omega) (by omega)]
      simp only [takeD, if_pos hb, hor_cons, List.length_cons, List.length_append, List.append_assoc, List.cons_append, List.nil_append, List.length_nil]
      rw [show pre.length + (0 + 1) + (takeD c l).1.length = pre.length + ((takeD c l).1.length + 1) by omega, show c + 1 - ((takeD c l).1.length + 1) = c - (takeD c l).1.length by omega]
    · have e : (ref23_Number.t2 (B (pre ++ b :: l), (pre.length : Int), k, ((c + 1 : Nat) : Int), (s : Int), (a : Int), ())).run = some (.exit 2, B (pre ++ b :: l), (pre.length : Int), k, ((c + 1 : Nat) : Int), (s : Int), (a : Int), ()) := by
        unfold ref23_Number.t2
        dsimp only
        rw [tr_yes (by rw [B_size, decide_eq_true_eq]; simp; omega), sget_mid, tr_opt, Option.bind_some, tr_ite]
        split
        · rename_i h1
          rw [decide_eq_true_eq] at h1
          rw [tr_opt, Option.bind_some, tr_no (by
            rw [Bool.and_eq_false_iff]
            exact .inl (by rw [decide_eq_false_iff_not]; omega)), tr_ret]
        · rw [tr_ret]
      rw [iter_step e]
      simp only [takeD, if_neg hb]
      rfl

theorem l4_loop (s : ByteArray) (i k : Int) : ∀ (c a m : Nat), a * 10 ^ c < 2 ^ 62 → c ≤ 100 → c < m →
    (iterT ref23_Number.t4 m (s, i, k, (c : Int), (a : Int), ())).run = some (.exit 4, s, i, k, 0, ((a * 10 ^ c : Nat) : Int), ())
  | c, a, 0, _, _, hm => absurd hm (Nat.not_lt_zero _)
  | 0, a, m + 1, _, _, _ => by
    have e : (ref23_Number.t4 (s, i, k, ((0 : Nat) : Int), (a : Int), ())).run = some (.exit 4, s, i, k, 0, (a : Int), ()) := by
      unfold ref23_Number.t4
      dsimp only
      rw [tr_no (by simp), tr_ret]
      rfl
    rw [iter_step e, Nat.pow_zero, Nat.mul_one]
  | c + 1, a, m + 1, ha, hc, hm => by
    have h1 : a * 10 * 10 ^ c < 2 ^ 62 := by rw [Nat.mul_assoc, ← Nat.pow_succ']; exact ha
    have h2 : a * 10 ≤ a * 10 * 10 ^ c := Nat.le_mul_of_pos_right _ (Nat.pow_pos (by omega))
    have e : (ref23_Number.t4 (s, i, k, ((c + 1 : Nat) : Int), (a : Int), ())).run = some (.normal, s, i, k, (c : Int), ((a * 10 : Nat) : Int), ()) := by
      unfold ref23_Number.t4
      dsimp only
      rw [tr_yes (by rw [decide_eq_true_eq]; omega), tr_ret, W_id (by omega) (by omega), W_id (by omega) (by omega)]
      rw [show ((c + 1 : Nat) : Int) - 1 = (c : Int) by omega, show (a : Int) * 10 = ((a * 10 : Nat) : Int) by omega]
    rw [iter_step e]
    show (iterT ref23_Number.t4 m _).run = _
    rw [l4_loop s i k c (a * 10) m h1 (by omega) (by omega), Nat.mul_assoc, ← Nat.pow_succ']
end Go.Proofs.Pen

namespace Go.Proofs.Pen
open Go Go.Proofs
set_option maxRecDepth 100000
noncomputable def law23_awake.t (_ : Unit) : T (Bool) := T.ret true
noncomputable def law23_awake.q : List AV → T AV := entry [] (outR [.bool]) fun _ => .ret (true : dens [.bool])
theorem law23_awake.ok : FnOK Tryd.prog 8 law23_awake.q := peK_entry mixed Xok [21, 22, 24, 47, 53, 29] 1000 20 Tryd.func8 (by kernel_rfl) (by kernel_rfl)
end Go.Proofs.Pen

namespace Go.Proofs.Pen
open Go Go.Proofs
noncomputable def law23_LexReads.t (x : ByteArray) : T (Bool) := T.ite (decide ((↑(ByteArray.size x) : Int) > (200 : Int))) (T.ret true) (T.opt (lex_Number x) fun y => T.opt (ref23_Number x) fun y_1 => T.ite (!y_1.snd) (T.opt (lex_Whole x) fun y_2 => T.ite y_1.snd (T.ite (!y_2.snd == (Int.tmod (0 : Int) (1024 : Int) == (0 : Int)) || y_2.snd && W (y_2.fst * (1024 : Int)) != (0 : Int) || !y_2.snd && y_2.fst != (0 : Int)) (T.ret false) (T.ite (!y.2) (T.ret (!y_1.snd && y.1 == (0 : Int))) (T.opt (lex_Text y.1) fun y_3 => T.ret (y_1.snd && y.1 == (0 : Int) && ByteArray.toList y_3.fst == ByteArray.toList x && y_3.snd == (0 : Int))))) (T.ite (!y_2.snd == false || y_2.snd && W (y_2.fst * (1024 : Int)) != (0 : Int) || !y_2.snd && y_2.fst != (0 : Int)) (T.ret false) (T.ite (!y.2) (T.ret (!y_1.snd && y.1 == (0 : Int))) (T.opt (lex_Text y.1) fun y_3 => T.ret (y_1.snd && y.1 == (0 : Int) && ByteArray.toList y_3.fst == ByteArray.toList x && y_3.snd == (0 : Int)))))) (T.opt (lex_Whole x) fun y_2 => T.ite y_1.snd (T.ite (!y_2.snd == (Int.tmod y_1.fst (1024 : Int) == (0 : Int)) || y_2.snd && W (y_2.fst * (1024 : Int)) != y_1.fst || !y_2.snd && y_2.fst != (0 : Int)) (T.ret false) (T.ite (!y.2) (T.ret (!y_1.snd && y.1 == (0 : Int))) (T.opt (lex_Text y.1) fun y_3 => T.ret (y_1.snd && y.1 == y_1.fst && ByteArray.toList y_3.fst == ByteArray.toList x && y_3.snd == (0 : Int))))) (T.ite (!y_2.snd == false || y_2.snd && W (y_2.fst * (1024 : Int)) != y_1.fst || !y_2.snd && y_2.fst != (0 : Int)) (T.ret false) (T.ite (!y.2) (T.ret (!y_1.snd && y.1 == (0 : Int))) (T.opt (lex_Text y.1) fun y_3 => T.ret (y_1.snd && y.1 == y_1.fst && ByteArray.toList y_3.fst == ByteArray.toList x && y_3.snd == (0 : Int)))))))
noncomputable def law23_LexReads (x : ByteArray) : Option (Bool) := (law23_LexReads.t x).run
noncomputable def law23_LexReads.q : List AV → T AV := entry [.str] (outR [.bool]) fun x => .opt (law23_LexReads x) .ret
theorem law23_LexReads.ok : FnOK Tryd.prog 4 law23_LexReads.q :=
  entry_call (ps := [.str]) (rs := [.bool]) (F := ({ quiet := (ext (ext (ext (ext (ext Xs 8 law23_awake.q) 9 lex_Number.q) 11 ref23_Number.q) 12 lex_Whole.q) 7 lex_Text.q), deep := noDeep } : Fns)) (D := D0) (S := tabS []) (t := law23_LexReads.t) mixed (quiet_ext (quiet_ext (quiet_ext (quiet_ext (quiet_ext Xok law23_awake.ok) lex_Number.ok) ref23_Number.ok) lex_Whole.ok) lex_Text.ok) (deep_none _) Tryd.func4 (by kernel_rfl) (sok_fn trivial) (by kernel_rfl) (fun x => by kernel_rfl)
end Go.Proofs.Pen

namespace Go.Proofs.Pen
open Go Go.Proofs

noncomputable def numE (s : ByteArray) (i k : Int) : T (Int × Bool) :=
  T.ite (i != (↑(ByteArray.size s) : Int) || decide (k > (1099511627776 : Int))) (T.ret ((0 : Int), false)) (T.opt (sget s (0 : Int)) fun y_2 => T.ite (y_2 == (45 : Int)) (T.opt (txt1 (W ((0 : Int) - k))) fun y_3 => T.ret (W ((0 : Int) - k), y_3.toList == ByteArray.toList s)) (T.opt (txt1 k) fun y_3 => T.ret (k, y_3.toList == ByteArray.toList s)))

noncomputable def numP (x : ByteArray) (i0 : Int) : T (Int × Bool) :=
  T.opt (ref23_Number.l0 (x, i0, (0 : Int), i0, ())) fun y => T.ite (exEq y.1 (Ex.exit (0 : Nat))) (T.ite (decide (y.2.2.1 < (↑(ByteArray.size y.2.1) : Int))) (T.opt (sget y.2.1 y.2.2.1) fun y_1 => T.ite (y_1 == (46 : Int)) (T.opt (ref23_Number.l2 (y.2.1, W (y.2.2.1 + (1 : Int)), W (y.2.2.2.1 * (1024 : Int)), (10 : Int), W (y.2.2.1 + (1 : Int)), (0 : Int), ())) fun y => T.ite (exEq y.1 (Ex.exit (2 : Nat))) (T.opt (ref23_Number.l4 (y.2.1, y.2.2.1, y.2.2.2.1, y.2.2.2.2.1, y.2.2.2.2.2.2.1, ())) fun y => T.ite (exEq y.1 (Ex.exit (4 : Nat))) (T.ite (Int.tmod y.2.2.2.2.2.1 (9765625 : Int) != (0 : Int)) (T.ret ((0 : Int), false)) (numE y.2.1 y.2.2.1 (W (y.2.2.2.1 + W (Int.tdiv y.2.2.2.2.2.1 (9765625 : Int)))))) T.fail) T.fail) (numE y.2.1 y.2.2.1 (W (y.2.2.2.1 * (1024 : Int))))) (numE y.2.1 y.2.2.1 (W (y.2.2.2.1 * (1024 : Int))))) T.fail

theorem ref_tree (x : ByteArray) : ref23_Number.t x = T.ite ((↑(ByteArray.size x) : Int) == (0 : Int) || decide ((↑(ByteArray.size x) : Int) > (24 : Int))) (T.ret ((0 : Int), false)) (T.opt (sget x (0 : Int)) fun y => T.ite (y == (45 : Int)) (numP x 1) (numP x 0)) := rfl

def goodQ (x : ByteArray) (r : Int × Bool) : Prop := r.2 = true → -1099511627776 ≤ r.1 ∧ r.1 ≤ 1099511627776 ∧ x = B (Tx r.1)

/-- What is tried at the end. -/
theorem numE_good (l : List UInt8) (hl : l ≠ []) (i : Int) {k : Nat} (hk : k < 2 ^ 62) : ∃ r, (numE (B l) i k).run = some r ∧ goodQ (B l) r := by
  unfold numE
  rw [tr_ite]
  split
  · exact ⟨_, tr_ret _, fun h => by cases h⟩
  · rename_i h
    simp only [Bool.or_eq_true, decide_eq_true_eq, not_or] at h
    have hk2 := h.2
    cases l with
    | nil => exact absurd rfl hl
    | cons b l =>
      have hs : sget (B (b :: l)) (0 : Int) = some (b.toNat : Int) := sget_mid [] b l
      have hW : W (0 - (k : Int)) = -(k : Int) := by rw [W_id (by omega) (by omega)]; omega
      rw [hs, tr_opt, Option.bind_some, tr_ite, hW]
      split
      · rw [txt1_eq (by omega) (by omega), tr_opt, Option.bind_some, tr_ret]
        refine ⟨_, rfl, fun hr => ?_⟩
        exact ⟨by dsimp only; omega, by dsimp only; omega, (toList_inj (eq_of_beq hr)).symm⟩
      · rw [txt1_eq (by omega) (by omega), tr_opt, Option.bind_some, tr_ret]
        refine ⟨_, rfl, fun hr => ?_⟩
        exact ⟨by dsimp only; omega, by dsimp only; omega, (toList_inj (eq_of_beq hr)).symm⟩

theorem numE_eq {k : Int} (h0 : -1099511627776 ≤ k) (h1 : k ≤ 1099511627776) : (numE (B (Tx k)) (((Tx k).length : Nat) : Int) (k.natAbs : Int)).run = some (k, true) := by
  unfold numE
  rw [B_size, tr_no (by
    rw [Bool.or_eq_false_iff]
    exact ⟨by simp, by rw [decide_eq_false_iff_not]; omega⟩)]
  by_cases hk : k < 0
  · have hT : Tx k = 45 :: Nx k.natAbs := by unfold Tx; rw [if_pos hk]; rfl
    have hs : sget (B (Tx k)) (0 : Int) = some ((45 : Nat) : Int) := by rw [hT]; exact sget_mid [] 45 _
    have hW : W (0 - (k.natAbs : Int)) = k := by rw [W_id (by omega) (by omega)]; omega
    rw [hs, tr_opt, Option.bind_some, tr_yes (b := (((45 : Nat) : Int) == 45)) rfl, hW, txt1_eq h0 h1, tr_opt, Option.bind_some, tr_ret]
    simp
  · obtain ⟨d, l, hd, e⟩ := dgs_ne (f := 9) (n := k.natAbs / 1024)
    have hT : ∃ r, Tx k = dg d :: r := by unfold Tx Nx; rw [if_neg hk, e]; exact ⟨_, rfl⟩
    obtain ⟨r, hT⟩ := hT
    have hs : sget (B (Tx k)) (0 : Int) = some ((dg d).toNat : Int) := by rw [hT]; exact sget_mid [] (dg d) _
    rw [hs, tr_opt, Option.bind_some, tr_no (by rw [dg_nat hd]; simp; omega), show (k.natAbs : Int) = k by omega, txt1_eq h0 h1, tr_opt, Option.bind_some, tr_ret]
    simp

/-- The number that stands in a text behind its sign. -/
theorem numP_eq (pre l : List UInt8) (hp : pre.length ≤ 1) (hl : pre.length + l.length ≤ 24) :
    (numP (B (pre ++ l)) (pre.length : Int)).run =
      match (takeD 12 l).2 with
      | [] => (numE (B (pre ++ l)) ((pre.length + (takeD 12 l).1.length : Nat) : Int) ((hor 0 (takeD 12 l).1 * 1024 : Nat) : Int)).run
      | b :: r => if b.toNat = 46 then
          if hor 0 (takeD 10 r).1 * 10 ^ (10 - (takeD 10 r).1.length) % 9765625 = 0 then
            (numE (B (pre ++ l)) ((pre.length + (takeD 12 l).1.length + 1 + (takeD 10 r).1.length : Nat) : Int) ((hor 0 (takeD 12 l).1 * 1024 + hor 0 (takeD 10 r).1 * 10 ^ (10 - (takeD 10 r).1.length) / 9765625 : Nat) : Int)).run
          else some (0, false)
        else (numE (B (pre ++ l)) ((pre.length + (takeD 12 l).1.length : Nat) : Int) ((hor 0 (takeD 12 l).1 * 1024 : Nat) : Int)).run := by
  have hn : hor 0 (takeD 12 l).1 < 10 ^ 12 := Nat.lt_of_lt_of_le (hor_lt _ 0 0 (takeD_lt 12 l) (by simp)) (Nat.pow_le_pow_right (by omega) (by have := takeD_len 12 l; omega))
  have happ := takeD_app 12 l
  have hlen : (takeD 12 l).1.length + (takeD 12 l).2.length = l.length := by
    have := congrArg List.length happ
    rw [List.length_append, List.length_map] at this
    exact this
  have h0 := l0_loop 12 l pre 0 0 pre.length rounds (by simp) (by omega) (by omega) (by omega) (rounds_gt (by omega))
  have h0' : (iterT ref23_Number.t0 rounds (B (pre ++ l), (pre.length : Int), (0 : Int), (pre.length : Int), ())).run = _ := h0
  unfold numP ref23_Number.l0
  rw [h0', tr_opt, Option.bind_some]
  dsimp only
  rw [tr_yes (by decide)]
  have hW : W ((hor 0 (takeD 12 l).1 : Int) * 1024) = ((hor 0 (takeD 12 l).1 * 1024 : Nat) : Int) := by rw [W_id (by omega) (by omega)]; omega
  rw [hW]
  generalize hds : (takeD 12 l).1 = ds at *
  generalize hn' : hor 0 ds = n at *
  cases hr : (takeD 12 l).2 with
  | nil =>
    rw [hr] at hlen
    rw [tr_no (by rw [B_size, List.length_append, decide_eq_false_iff_not]; simp at hlen; omega)]
  | cons b r =>
    rw [hr] at hlen happ
    have hlt : (decide (((pre.length + ds.length : Nat) : Int) < (ByteArray.size (B (pre ++ l)) : Int))) = true := by rw [B_size, List.length_append, decide_eq_true_eq]; simp at hlen; omega
    have hpl : pre ++ l = (pre ++ ds.map dg) ++ b :: r := by rw [List.append_assoc, happ]
    have hs : sget (B (pre ++ l)) ((pre.length + ds.length : Nat) : Int) = some (b.toNat : Int) := by
      rw [hpl, show ((pre.length + ds.length : Nat) : Int) = (((pre ++ ds.map dg).length : Nat) : Int) by simp]
      exact sget_mid _ _ _
    rw [tr_yes hlt, hs, tr_opt, Option.bind_some, tr_ite]
    dsimp only
    by_cases hb : b.toNat = 46
    · rw [if_pos (by rw [hb]; rfl), if_pos hb]
      have hfl := takeD_len 10 r
      have hf : hor 0 (takeD 10 r).1 < 10 ^ (0 + (takeD 10 r).1.length) := hor_lt _ 0 0 (takeD_lt 10 r) (by simp)
      have hf2 : hor 0 (takeD 10 r).1 * 10 ^ (10 - (takeD 10 r).1.length) < 10 ^ 10 := by
        have h1 : hor 0 (takeD 10 r).1 * 10 ^ (10 - (takeD 10 r).1.length) < 10 ^ (0 + (takeD 10 r).1.length) * 10 ^ (10 - (takeD 10 r).1.length) := Nat.mul_lt_mul_of_pos_right hf (Nat.pow_pos (by omega))
        rw [← Nat.pow_add, show 0 + (takeD 10 r).1.length + (10 - (takeD 10 r).1.length) = 10 by omega] at h1
        exact h1
      have hW1 : W (((pre.length + ds.length : Nat) : Int) + 1) = (((pre ++ ds.map dg ++ [b]).length : Nat) : Int) := by
        rw [W_id (by simp at hlen; omega) (by simp at hlen; omega)]; simp; omega
      have h2 := l2_loop 10 r (pre ++ ds.map dg ++ [b]) 0 0 (pre ++ ds.map dg ++ [b]).length rounds ((n * 1024 : Nat) : Int) (by simp) (by omega) (by simp at hlen ⊢; omega) (by omega) (rounds_gt (by omega))
      have hpl2 : (pre ++ ds.map dg ++ [b]) ++ r = pre ++ l := by rw [hpl]; simp
      rw [hpl2] at h2
      have h2' : (iterT ref23_Number.t2 rounds (B (pre ++ l), (((pre ++ ds.map dg ++ [b]).length : Nat) : Int), ((n * 1024 : Nat) : Int), (10 : Int), (((pre ++ ds.map dg ++ [b]).length : Nat) : Int), (0 : Int), ())).run = _ := h2
      unfold ref23_Number.l2
      rw [hW1, tr_opt, h2', Option.bind_some]
      dsimp only
      rw [tr_yes (by decide), tr_opt]
      unfold ref23_Number.l4
      rw [l4_loop (B (pre ++ l)) _ _ (10 - (takeD 10 r).1.length) (hor 0 (takeD 10 r).1) rounds (by omega) (by omega) (rounds_gt (by omega)), Option.bind_some]
      dsimp only
      rw [tr_yes (by decide)]
      have hlen3 : (pre ++ ds.map dg ++ [b]).length = pre.length + ds.length + 1 := by simp; omega
      rw [hlen3]
      generalize hor 0 (takeD 10 r).1 * 10 ^ (10 - (takeD 10 r).1.length) = f at *
      have e1 : (f : Int).tmod 9765625 = ((f % 9765625 : Nat) : Int) := by rw [Int.tmod_eq_emod_of_nonneg (by omega)]; omega
      have e2 : W ((f : Int).tdiv 9765625) = ((f / 9765625 : Nat) : Int) := by
        rw [Int.tdiv_eq_ediv_of_nonneg (by omega), W_id (by omega) (by omega)]; omega
      have e3 : W (((n * 1024 : Nat) : Int) + ((f / 9765625 : Nat) : Int)) = ((n * 1024 + f / 9765625 : Nat) : Int) := by
        rw [W_id (by omega) (by omega)]; omega
      rw [e1, e2, e3, tr_ite]
      by_cases hz : f % 9765625 = 0
      · rw [if_neg (by rw [hz]; decide), if_pos hz]
      · rw [if_pos (by simp; omega), if_neg hz, tr_ret]
    · rw [if_neg (by simp; omega), if_neg hb]
end Go.Proofs.Pen

namespace Go.Proofs.Pen
open Go Go.Proofs

theorem hor12 (l : List UInt8) : hor 0 (takeD 12 l).1 < 10 ^ 12 := Nat.lt_of_lt_of_le (hor_lt _ 0 0 (takeD_lt 12 l) (by simp)) (Nat.pow_le_pow_right (by omega) (by have := takeD_len 12 l; omega))
theorem hor10 (r : List UInt8) : hor 0 (takeD 10 r).1 * 10 ^ (10 - (takeD 10 r).1.length) < 10 ^ 10 := by
  have hfl := takeD_len 10 r
  have hf : hor 0 (takeD 10 r).1 < 10 ^ (0 + (takeD 10 r).1.length) := hor_lt _ 0 0 (takeD_lt 10 r) (by simp)
  have h1 : hor 0 (takeD 10 r).1 * 10 ^ (10 - (takeD 10 r).1.length) < 10 ^ (0 + (takeD 10 r).1.length) * 10 ^ (10 - (takeD 10 r).1.length) := Nat.mul_lt_mul_of_pos_right hf (Nat.pow_pos (by omega))
  rw [← Nat.pow_add, show 0 + (takeD 10 r).1.length + (10 - (takeD 10 r).1.length) = 10 by omega] at h1
  exact h1

theorem numP_good (pre l : List UInt8) (hp : pre.length ≤ 1) (hl : pre.length + l.length ≤ 24) (hn : pre ++ l ≠ []) :
    ∃ r, (numP (B (pre ++ l)) (pre.length : Int)).run = some r ∧ goodQ (B (pre ++ l)) r := by
  rw [numP_eq pre l hp hl]
  have h1 := hor12 l
  split
  · exact numE_good _ hn _ (by omega)
  · rename_i b r _
    have h2 := hor10 r
    split
    · split
      · exact numE_good _ hn _ (by omega)
      · exact ⟨_, rfl, fun h => by cases h⟩
    · exact numE_good _ hn _ (by omega)

theorem ref_good (x : ByteArray) : ∃ r, ref23_Number x = some r ∧ goodQ x r := by
  unfold ref23_Number
  rw [ref_tree, tr_ite]
  split
  · exact ⟨_, tr_ret _, fun h => by cases h⟩
  · rename_i h
    simp only [Bool.or_eq_true, beq_iff_eq, decide_eq_true_eq, not_or] at h
    rw [← B_self x] at h ⊢
    generalize x.data.toList = l at *
    rw [B_size] at h
    cases l with
    | nil => simp at h
    | cons b l =>
      have hs : sget (B (b :: l)) (0 : Int) = some (b.toNat : Int) := sget_mid [] b l
      have hle : l.length + 1 ≤ 24 := by simp at h; omega
      rw [hs, tr_opt, Option.bind_some, tr_ite]
      split
      · exact numP_good [b] l (by simp) (by simp; omega) (by simp)
      · exact numP_good [] (b :: l) (by simp) (by simp; omega) (by simp)

theorem fr_full : ((List.range 1024).all fun f => hor 0 (fr 10 f) * 10 ^ (10 - (fr 10 f).length) == f * 9765625) = true := by kernel_rfl

theorem numP_back (pre : List UInt8) {k : Int} (h0 : -1099511627776 ≤ k) (h1 : k ≤ 1099511627776) (hp : pre.length ≤ 1) (hT : Tx k = pre ++ Nx k.natAbs) : (numP (B (Tx k)) (pre.length : Int)).run = some (k, true) := by
  have hl := Nx_len k.natAbs
  have hd : takeD 12 (Nx k.natAbs) = ((rdig 10 (k.natAbs / 1024) 1).reverse, if k.natAbs % 1024 = 0 then [] else 46 :: fx (k.natAbs % 1024)) := by
    unfold Nx dgs
    refine takeD_dg 12 _ _ (fun d hd => rdig_lt _ _ _ d (List.mem_reverse.1 hd)) (by rw [List.length_reverse]; have := rdig_len 10 (k.natAbs / 1024) 1; omega) ?_
    split
    · exact .inl rfl
    · exact .inr ⟨_, _, rfl, by decide⟩
  have hq : hor 0 (rdig 10 (k.natAbs / 1024) 1).reverse = k.natAbs / 1024 := hor_rdig 10 _ _ (by omega)
  have hfin := numE_eq h0 h1
  have hlen : (Tx k).length = pre.length + (rdig 10 (k.natAbs / 1024) 1).reverse.length + (if k.natAbs % 1024 = 0 then [] else 46 :: fx (k.natAbs % 1024)).length := by
    rw [hT]; unfold Nx dgs
    rw [List.length_append, List.length_append, List.length_map]; omega
  have he := numP_eq pre (Nx k.natAbs) hp (by omega)
  rw [← hT, hd] at he
  rw [he]
  dsimp only
  by_cases hz : k.natAbs % 1024 = 0
  · rw [if_pos hz] at hlen ⊢
    dsimp only
    rw [hlen] at hfin
    rw [hq, show k.natAbs / 1024 * 1024 = k.natAbs by omega]
    exact hfin
  · rw [if_neg hz] at hlen ⊢
    dsimp only
    rw [if_pos (by decide)]
    have ht : takeD 10 (fx (k.natAbs % 1024)) = (fr 10 (k.natAbs % 1024), []) := by
      have := takeD_dg 10 (fr 10 (k.natAbs % 1024)) [] (fr_lt 10 _ (by omega)) (fr_len _ _) (.inl rfl)
      rw [List.append_nil] at this
      exact this
    have hff := eq_of_beq (List.all_eq_true.1 fr_full (k.natAbs % 1024) (List.mem_range.2 (by omega)))
    rw [ht]
    dsimp only
    rw [hff, hq, if_pos (by omega), show k.natAbs / 1024 * 1024 + k.natAbs % 1024 * 9765625 / 9765625 = k.natAbs by omega]
    have hl2 : (Tx k).length = pre.length + (rdig 10 (k.natAbs / 1024) 1).reverse.length + 1 + (fr 10 (k.natAbs % 1024)).length := by
      rw [hlen, List.length_cons]; unfold fx; rw [List.length_map]; omega
    rw [hl2] at hfin
    exact hfin

theorem ref_back {k : Int} (h0 : -1099511627776 ≤ k) (h1 : k ≤ 1099511627776) : ref23_Number (B (Tx k)) = some (k, true) := by
  have hl := Nx_len k.natAbs
  unfold ref23_Number
  rw [ref_tree]
  by_cases hk : k < 0
  · have hT : Tx k = [45] ++ Nx k.natAbs := by unfold Tx; rw [if_pos hk]
    have hs : sget (B (Tx k)) (0 : Int) = some ((45 : Nat) : Int) := by rw [hT]; exact sget_mid [] 45 _
    rw [tr_no (by rw [B_size, hT, Bool.or_eq_false_iff]; exact ⟨by simp; omega, by rw [decide_eq_false_iff_not]; simp; omega⟩), hs, tr_opt, Option.bind_some, tr_yes (b := (((45 : Nat) : Int) == 45)) rfl]
    exact numP_back [45] h0 h1 (by simp) hT
  · obtain ⟨d, l, hd, e⟩ := dgs_ne (f := 9) (n := k.natAbs / 1024)
    have hT0 : Tx k = [] ++ Nx k.natAbs := by unfold Tx; rw [if_neg hk]
    have hT : ∃ r, Nx k.natAbs = dg d :: r := by unfold Nx; rw [e]; exact ⟨_, rfl⟩
    obtain ⟨r, hT⟩ := hT
    have hs : sget (B (Tx k)) (0 : Int) = some ((dg d).toNat : Int) := by rw [hT0, hT]; exact sget_mid [] (dg d) _
    have hpos : (Nx k.natAbs).length = r.length + 1 := by rw [hT]; rfl
    rw [tr_no (by rw [B_size, hT0, List.nil_append, Bool.or_eq_false_iff]; exact ⟨by rw [beq_eq_false_iff_ne]; omega, by rw [decide_eq_false_iff_not]; omega⟩), hs, tr_opt, Option.bind_some, tr_no (by rw [dg_nat hd]; simp; omega)]
    exact numP_back [] h0 h1 (by simp) hT0

/-- What both say of a text. -/
theorem both (x : ByteArray) : (lex_Number x = some (0, false) ∧ ∃ n, ref23_Number x = some (n, false)) ∨ ∃ k, -1099511627776 ≤ k ∧ k ≤ 1099511627776 ∧ x = B (Tx k) ∧ lex_Number x = some (k, true) ∧ ref23_Number x = some (k, true) := by
  obtain ⟨r, e1, g1⟩ := Number_good x
  obtain ⟨q, e2, g2⟩ := ref_good x
  rcases g1 with rfl | ⟨_, h0, h1, hx⟩
  · obtain ⟨n, b⟩ := q
    cases b with
    | false => exact .inl ⟨e1, n, e2⟩
    | true =>
      obtain ⟨h0, h1, hx⟩ := g2 rfl
      dsimp only at h0 h1 hx
      have := Number_back h0 h1
      rw [← hx, e1] at this
      cases this
  · refine .inr ⟨r.1, h0, h1, hx, ?_, ?_⟩
    · have := Number_back h0 h1
      rw [← hx] at this; exact this
    · have := ref_back h0 h1
      rw [← hx] at this; exact this

theorem LexReads_law (x : ByteArray) : (law23_LexReads.t x).run = some true := by
  unfold law23_LexReads.t
  rw [tr_ite]
  split
  · rfl
  · rcases both x with ⟨e1, n, e2⟩ | ⟨k, h0, h1, hx, e1, e2⟩
    · have hw : lex_Whole x = some (0, false) := by
        unfold lex_Whole lex_Whole.t
        rw [e1]; rfl
      rw [e1, tr_opt, Option.bind_some, e2, tr_opt, Option.bind_some, hw]
      rfl
    · have hm : k.tmod 1024 = 0 ∨ k.tmod 1024 ≠ 0 := by omega
      have ht := Text_eq h0 h1
      rw [e1, tr_opt, Option.bind_some, e2, tr_opt, Option.bind_some]
      dsimp only
      rcases hm with hm | hm
      · have hw : lex_Whole x = some (k.tdiv 1024, true) := by
          unfold lex_Whole lex_Whole.t
          have h3 := Int.tmod_add_mul_tdiv k 1024
          have hW : W (k.tdiv 1024) = k.tdiv 1024 := W_id (by omega) (by omega)
          rw [e1, tr_opt, Option.bind_some]
          dsimp only
          rw [tr_no (b := !true) rfl, tr_no (by rw [hm]; rfl), tr_ret, hW]
        have h3 := Int.tmod_add_mul_tdiv k 1024
        have hW : W (k.tdiv 1024 * 1024) = k := by rw [W_id (by omega) (by omega)]; omega
        rw [hw, tr_no (b := !true) rfl, tr_opt, Option.bind_some]
        dsimp only
        rw [hW, hm, ht, tr_yes (b := true) rfl, tr_no (by simp), tr_no (b := !true) rfl, tr_opt, Option.bind_some, tr_ret, hx]
        simp
      · have hw : lex_Whole x = some (0, false) := by
          unfold lex_Whole lex_Whole.t
          rw [e1, tr_opt, Option.bind_some]
          dsimp only
          rw [tr_no (b := !true) rfl, tr_yes (by simpa using hm), tr_ret]
        rw [hw, tr_no (b := !true) rfl, tr_opt, Option.bind_some]
        dsimp only
        rw [ht, tr_yes (b := true) rfl, tr_no (by simpa using hm), tr_no (b := !true) rfl, tr_opt, Option.bind_some, tr_ret, hx]
        simp

theorem LexReads_all (x : dens [.str]) (_ : insAll [.str] x) : (law23_LexReads.t x).run = some true := LexReads_law x
end Go.Proofs.Pen

namespace Go.Proofs.Pen
open Go Go.Proofs
def lex_Numbers.L0 : List (Nat × Lay) := [(2, .row TI), (3, .val TI), (4, .row TI), (9, .val (.sl .str)), (10, .val TI), (11, .val TI)]
noncomputable def lex_Numbers.t0 (x : List Int × Int × List Int × (List (ByteArray)) × Int × Int × Unit) : T (Ex × List Int × Int × List Int × (List (ByteArray)) × Int × Int × Unit) := T.ite (decide (x.2.2.2.2.2.1 < x.2.2.2.2.1)) (T.opt (lget x.2.2.2.1 x.2.2.2.2.2.1) fun y => T.opt (lex_Number y) fun y => T.ite (!y.2) (T.ret (Ex.ret, [], x.2.2.2.2.2.1, List.take x.2.2.1.length x.2.2.1, x.2.2.2.1, x.2.2.2.2.1, x.2.2.2.2.2.1, ())) (T.ite (decide ((x.2.2.1.length + (1 : Nat)) * nat_lit 8 ≤ most)) (T.ret (Ex.normal, List.take x.1.length x.1, x.2.1, List.take (x.2.2.1.length + (1 : Nat)) (List.take x.2.2.1.length x.2.2.1 ++ [y.1]), x.2.2.2.1, x.2.2.2.2.1, W (x.2.2.2.2.2.1 + (1 : Int)), ())) T.fail)) (T.ret (Ex.exit (0 : Nat), List.take x.1.length x.1, x.2.1, List.take x.2.2.1.length x.2.2.1, x.2.2.2.1, x.2.2.2.2.1, x.2.2.2.2.2.1, ()))
noncomputable def lex_Numbers.l0 (x : List Int × Int × List Int × (List (ByteArray)) × Int × Int × Unit) : Option (Ex × List Int × Int × List Int × (List (ByteArray)) × Int × Int × Unit) := (iterT lex_Numbers.t0 rounds x).run
theorem lex_Numbers.k0 : bodies 0 (lp Tryd.f13 []) = [.loop (loopIn 0 (lp Tryd.f13 []))] ∧ WP Tryd.prog 0 (.block 0 (.loop (loopIn 0 (lp Tryd.f13 [])))) (loopS lex_Numbers.L0 30 0 [.exit 0, .ret] lex_Numbers.l0) :=
  loop_tree (L := lex_Numbers.L0) (F := ({ quiet := (ext Xs 9 lex_Number.q), deep := noDeep } : Fns)) (D := D0) (tab := []) (t := lex_Numbers.t0) mixed (quiet_ext Xok lex_Number.ok) (deep_none _) (fun _ => rfl) (by kernel_rfl) (by kernel_rfl) trivial (fun x => by kernel_rfl)
noncomputable def lex_Numbers.t (x : (List (ByteArray))) : T ((List (Int)) × Int) := T.opt (lex_Numbers.l0 ([], (0 : Int), [], x, (↑(List.length x) : Int), (0 : Int), ())) fun y => T.ite (exEq y.1 (Ex.exit (0 : Nat))) (T.ret (List.take y.2.2.2.1.length y.2.2.2.1, (-1 : Int))) (T.ite (exEq y.1 Ex.ret) (T.ret (List.take y.2.1.length y.2.1, y.2.2.1)) T.fail)
noncomputable def lex_Numbers (x : (List (ByteArray))) : Option ((List (Int)) × Int) := (lex_Numbers.t x).run
noncomputable def lex_Numbers.q : List AV → T AV := entry [(.sl .str)] (outR [(.sl TI), TI]) fun x => .opt (lex_Numbers x) .ret
theorem lex_Numbers.ok : FnOK Tryd.prog 13 lex_Numbers.q :=
  entry_call (ps := [(.sl .str)]) (rs := [(.sl TI), TI]) (F := ({ quiet := (ext Xs 9 lex_Number.q), deep := noDeep } : Fns)) (D := D0) (S := tabS [(0, loopS lex_Numbers.L0 30 0 [.exit 0, .ret] lex_Numbers.l0)]) (t := lex_Numbers.t) mixed (quiet_ext Xok lex_Number.ok) (deep_none _) Tryd.func13 (by kernel_rfl) (sok_fn ⟨lex_Numbers.k0, trivial⟩) (by kernel_rfl) (fun x => by kernel_rfl)
end Go.Proofs.Pen

namespace Go.Proofs.Pen
open Go Go.Proofs
def ref01_Ints.L0 : List (Nat × Lay) := [(0, .val (.sl TI)), (1, .val (.sl TI)), (4, .val .bool), (5, .val TI)]
noncomputable def ref01_Ints.t0 (x : (List (Int)) × (List (Int)) × Bool × Int × Unit) : T (Ex × (List (Int)) × (List (Int)) × Bool × Int × Unit) := T.ite (decide (x.2.2.2.1 < (↑(List.length x.1) : Int))) (T.opt (lget x.1 x.2.2.2.1) fun y => T.opt (lget x.2.1 x.2.2.2.1) fun y_1 => T.ite (y != y_1) (T.ret (Ex.ret, x.1, x.2.1, false, x.2.2.2.1, ())) (T.ret (Ex.normal, x.1, x.2.1, x.2.2.1, W (x.2.2.2.1 + (1 : Int)), ()))) (T.ret (Ex.exit (0 : Nat), x.1, x.2.1, x.2.2.1, x.2.2.2.1, ()))
noncomputable def ref01_Ints.l0 (x : (List (Int)) × (List (Int)) × Bool × Int × Unit) : Option (Ex × (List (Int)) × (List (Int)) × Bool × Int × Unit) := (iterT ref01_Ints.t0 rounds x).run
theorem ref01_Ints.k0 : bodies 0 (lp Tryd.f14 []) = [.loop (loopIn 0 (lp Tryd.f14 []))] ∧ WP Tryd.prog 0 (.block 0 (.loop (loopIn 0 (lp Tryd.f14 [])))) (loopS ref01_Ints.L0 26 0 [.exit 0, .ret] ref01_Ints.l0) :=
  loop_tree (L := ref01_Ints.L0) (F := ({ quiet := Xs, deep := noDeep } : Fns)) (D := D0) (tab := []) (t := ref01_Ints.t0) mixed Xok (deep_none _) (fun _ => rfl) (by kernel_rfl) (by kernel_rfl) trivial (fun x => by kernel_rfl)
noncomputable def ref01_Ints.t (x : (List (Int)) × (List (Int))) : T (Bool) := T.ite ((↑(List.length x.1) : Int) != (↑(List.length x.2) : Int)) (T.ret false) (T.opt (ref01_Ints.l0 (x.1, x.2, false, (0 : Int), ())) fun y => T.ite (exEq y.1 (Ex.exit (0 : Nat))) (T.ret true) (T.ite (exEq y.1 Ex.ret) (T.ret y.2.2.2.1) T.fail))
noncomputable def ref01_Ints (x : (List (Int)) × (List (Int))) : Option (Bool) := (ref01_Ints.t x).run
noncomputable def ref01_Ints.q : List AV → T AV := entry [(.sl TI), (.sl TI)] (outR [.bool]) fun x => .opt (ref01_Ints x) .ret
theorem ref01_Ints.ok : FnOK Tryd.prog 14 ref01_Ints.q :=
  entry_call (ps := [(.sl TI), (.sl TI)]) (rs := [.bool]) (F := ({ quiet := Xs, deep := noDeep } : Fns)) (D := D0) (S := tabS [(0, loopS ref01_Ints.L0 26 0 [.exit 0, .ret] ref01_Ints.l0)]) (t := ref01_Ints.t) mixed Xok (deep_none _) Tryd.func14 (by kernel_rfl) (sok_fn ⟨ref01_Ints.k0, trivial⟩) (by kernel_rfl) (fun x => by kernel_rfl)
end Go.Proofs.Pen

namespace Go.Proofs.Pen
open Go Go.Proofs
def law23_LexNumbers.L0 : List (Nat × Lay) := [(0, .val (.sl .str)), (3, .row TI), (4, .val TI), (5, .val TI)]
noncomputable def law23_LexNumbers.t0 (x : (List (ByteArray)) × List Int × Int × Int × Unit) : T (Ex × (List (ByteArray)) × List Int × Int × Int × Unit) := T.ite (decide (x.2.2.2.1 < (↑(List.length x.1) : Int)) && decide (x.2.2.1 < (0 : Int))) (T.opt (lget x.1 x.2.2.2.1) fun y => T.opt (ref23_Number y) fun y => T.ite (!y.2) (T.ite (decide ((x.2.1.length + (1 : Nat)) * nat_lit 8 ≤ most)) (T.ret (Ex.normal, x.1, List.take (x.2.1.length + (1 : Nat)) (List.take x.2.1.length x.2.1 ++ [y.1]), x.2.2.2.1, W (x.2.2.2.1 + (1 : Int)), ())) T.fail) (T.ite (decide ((x.2.1.length + (1 : Nat)) * nat_lit 8 ≤ most)) (T.ret (Ex.normal, x.1, List.take (x.2.1.length + (1 : Nat)) (List.take x.2.1.length x.2.1 ++ [y.1]), x.2.2.1, W (x.2.2.2.1 + (1 : Int)), ())) T.fail)) (T.ret (Ex.exit (0 : Nat), x.1, List.take x.2.1.length x.2.1, x.2.2.1, x.2.2.2.1, ()))
noncomputable def law23_LexNumbers.l0 (x : (List (ByteArray)) × List Int × Int × Int × Unit) : Option (Ex × (List (ByteArray)) × List Int × Int × Int × Unit) := (iterT law23_LexNumbers.t0 rounds x).run
theorem law23_LexNumbers.k0 : bodies 0 (lp Tryd.f5 []) = [.loop (loopIn 0 (lp Tryd.f5 []))] ∧ WP Tryd.prog 0 (.block 0 (.loop (loopIn 0 (lp Tryd.f5 [])))) (loopS law23_LexNumbers.L0 68 0 [.exit 0] law23_LexNumbers.l0) :=
  loop_tree (L := law23_LexNumbers.L0) (F := ({ quiet := (ext (ext (ext (ext Xs 11 ref23_Number.q) 13 lex_Numbers.q) 8 law23_awake.q) 14 ref01_Ints.q), deep := noDeep } : Fns)) (D := D0) (tab := []) (t := law23_LexNumbers.t0) mixed (quiet_ext (quiet_ext (quiet_ext (quiet_ext Xok ref23_Number.ok) lex_Numbers.ok) law23_awake.ok) ref01_Ints.ok) (deep_none _) (fun _ => rfl) (by kernel_rfl) (by kernel_rfl) trivial (fun x => by kernel_rfl)
noncomputable def law23_LexNumbers.t (x : (List (ByteArray))) : T (Bool) := T.ite (decide ((↑(List.length x) : Int) > (60 : Int))) (T.ite (decide ((0 : Int) ≤ (0 : Int)) && decide ((0 : Int) ≤ (60 : Int)) && decide ((60 : Int) ≤ (↑(List.length x) : Int))) (T.opt (law23_LexNumbers.l0 (List.take (Int.toNat (60 : Int) - Int.toNat (0 : Int)) (List.drop (Int.toNat (0 : Int)) x), [], (-1 : Int), (0 : Int), ())) fun y => T.ite (exEq y.1 (Ex.exit (0 : Nat))) (T.opt (lex_Numbers y.2.1) fun y_1 => T.ite (decide (y.2.2.2.1 ≥ (0 : Int))) (T.ret ((↑(List.length y_1.fst) : Int) == (0 : Int) && y_1.snd == y.2.2.2.1)) (T.ite true (T.opt (ref01_Ints (y_1.fst, List.take y.2.2.1.length y.2.2.1)) fun y => T.ret (y && y_1.snd == (-1 : Int))) (T.ret false))) T.fail) T.fail) (T.opt (law23_LexNumbers.l0 (x, [], (-1 : Int), (0 : Int), ())) fun y => T.ite (exEq y.1 (Ex.exit (0 : Nat))) (T.opt (lex_Numbers y.2.1) fun y_1 => T.ite (decide (y.2.2.2.1 ≥ (0 : Int))) (T.ret ((↑(List.length y_1.fst) : Int) == (0 : Int) && y_1.snd == y.2.2.2.1)) (T.ite true (T.opt (ref01_Ints (y_1.fst, List.take y.2.2.1.length y.2.2.1)) fun y => T.ret (y && y_1.snd == (-1 : Int))) (T.ret false))) T.fail)
noncomputable def law23_LexNumbers (x : (List (ByteArray))) : Option (Bool) := (law23_LexNumbers.t x).run
noncomputable def law23_LexNumbers.q : List AV → T AV := entry [(.sl .str)] (outR [.bool]) fun x => .opt (law23_LexNumbers x) .ret
theorem law23_LexNumbers.ok : FnOK Tryd.prog 5 law23_LexNumbers.q :=
  entry_call (ps := [(.sl .str)]) (rs := [.bool]) (F := ({ quiet := (ext (ext (ext (ext Xs 11 ref23_Number.q) 13 lex_Numbers.q) 8 law23_awake.q) 14 ref01_Ints.q), deep := noDeep } : Fns)) (D := D0) (S := tabS [(0, loopS law23_LexNumbers.L0 68 0 [.exit 0] law23_LexNumbers.l0)]) (t := law23_LexNumbers.t) mixed (quiet_ext (quiet_ext (quiet_ext (quiet_ext Xok ref23_Number.ok) lex_Numbers.ok) law23_awake.ok) ref01_Ints.ok) (deep_none _) Tryd.func5 (by kernel_rfl) (sok_fn ⟨law23_LexNumbers.k0, trivial⟩) (by kernel_rfl) (fun x => by kernel_rfl)
end Go.Proofs.Pen

namespace Go.Proofs.Pen
open Go Go.Proofs

/-- A text's numerator. -/
noncomputable def kv (x : ByteArray) : Option Int := match lex_Number x with
  | some (k, true) => some k
  | _ => none
theorem kv_none {x : ByteArray} (h : kv x = none) : lex_Number x = some (0, false) ∧ ∃ n, ref23_Number x = some (n, false) := by
  rcases both x with h1 | ⟨k, _, _, _, e1, _⟩
  · exact h1
  · unfold kv at h; rw [e1] at h; cases h
theorem kv_some {x : ByteArray} {k : Int} (h : kv x = some k) : lex_Number x = some (k, true) ∧ ref23_Number x = some (k, true) := by
  rcases both x with ⟨e1, _⟩ | ⟨j, _, _, _, e1, e2⟩
  · unfold kv at h; rw [e1] at h; cases h
  · unfold kv at h; rw [e1] at h; cases h; exact ⟨e1, e2⟩

/-- The numerators up to the first text that is none, and its place. -/
noncomputable def scan : List ByteArray → List Int × Option Nat
  | [] => ([], none)
  | x :: l => match kv x with
    | none => ([], some 0)
    | some k => (k :: (scan l).1, (scan l).2.map (· + 1))

theorem lget_mid {α : Type} (pre : List α) (x : α) (l : List α) : lget (pre ++ x :: l) (pre.length : Int) = some x := by
  unfold lget
  rw [if_neg (by omega), Int.toNat_natCast, List.getElem?_append_right (Nat.le_refl _), Nat.sub_self]; rfl

theorem Numbers_loop (r : Int) : ∀ (post pre : List ByteArray) (out : List Int) (m : Nat), pre.length + post.length ≤ 60 → out.length ≤ pre.length → post.length < m →
    match scan post with
    | (ks, none) => (iterT lex_Numbers.t0 m ([], r, out, pre ++ post, ((pre.length + post.length : Nat) : Int), (pre.length : Int), ())).run = some (.exit 0, [], r, out ++ ks, pre ++ post, ((pre.length + post.length : Nat) : Int), ((pre.length + post.length : Nat) : Int), ())
    | (_, some j) => ∃ y, (iterT lex_Numbers.t0 m ([], r, out, pre ++ post, ((pre.length + post.length : Nat) : Int), (pre.length : Int), ())).run = some (.ret, [], ((pre.length + j : Nat) : Int), y)
  | post, pre, out, 0, _, _, hm => absurd hm (Nat.not_lt_zero _)
  | [], pre, out, m + 1, hl, ho, hm => by
    have e : (lex_Numbers.t0 ([], r, out, pre ++ [], ((pre.length + ([] : List ByteArray).length : Nat) : Int), (pre.length : Int), ())).run = some (.exit 0, [], r, out, pre ++ [], ((pre.length + ([] : List ByteArray).length : Nat) : Int), (pre.length : Int), ()) := by
      unfold lex_Numbers.t0
      dsimp only
      rw [tr_no (by simp), tr_ret]
      simp
    rw [iter_step e]
    simp [scan]
  | x :: post, pre, out, m + 1, hl, ho, hm => by
    have hl' : pre.length + post.length + 1 ≤ 60 := by simp at hl; omega
    have hc : (decide ((pre.length : Int) < ((pre.length + (x :: post).length : Nat) : Int))) = true := by rw [decide_eq_true_eq, List.length_cons]; omega
    cases hk : kv x with
    | none =>
      simp only [scan, hk]
      obtain ⟨e1, _⟩ := kv_none hk
      have e : (lex_Numbers.t0 ([], r, out, pre ++ x :: post, ((pre.length + (x :: post).length : Nat) : Int), (pre.length : Int), ())).run = some (.ret, [], (pre.length : Int), out, pre ++ x :: post, ((pre.length + (x :: post).length : Nat) : Int), (pre.length : Int), ()) := by
        unfold lex_Numbers.t0
        dsimp only
        rw [tr_yes hc, lget_mid, tr_opt, Option.bind_some, e1, tr_opt, Option.bind_some, tr_yes (b := !false) rfl, tr_ret, List.take_length]
      rw [iter_step e]
      exact ⟨_, rfl⟩
    | some k =>
      obtain ⟨e1, _⟩ := kv_some hk
      have e : (lex_Numbers.t0 ([], r, out, pre ++ x :: post, ((pre.length + (x :: post).length : Nat) : Int), (pre.length : Int), ())).run = some (.normal, [], r, out ++ [k], (pre ++ [x]) ++ post, (((pre ++ [x]).length + post.length : Nat) : Int), (((pre ++ [x]).length : Nat) : Int), ()) := by
        unfold lex_Numbers.t0
        dsimp only
        rw [tr_yes hc, lget_mid, tr_opt, Option.bind_some, e1, tr_opt, Option.bind_some, tr_no (b := !true) rfl, tr_yes (by rw [decide_eq_true_eq]; exact room (by omega) (by omega)), tr_ret, take_all, W_id (by omega) (by omega)]
        have a1 : pre ++ x :: post = (pre ++ [x]) ++ post := by simp
        have a2 : pre.length + (x :: post).length = (pre ++ [x]).length + post.length := by simp; omega
        have a3 : (pre.length : Int) + 1 = (((pre ++ [x]).length : Nat) : Int) := by simp
        rw [a1, a2, a3]
        simp
      have ih := Numbers_loop r post (pre ++ [x]) (out ++ [k]) m (by simp; omega) (by simp; omega) (by simp at hm; omega)
      have a1 : pre ++ x :: post = (pre ++ [x]) ++ post := by simp
      have a2 : pre.length + (x :: post).length = (pre ++ [x]).length + post.length := by simp; omega
      simp only [scan, hk]
      cases hs : scan post with
      | mk ks o =>
        rw [hs] at ih
        cases o with
        | none =>
          dsimp only [Option.map_none] at ih ⊢
          rw [iter_step e]
          show (iterT lex_Numbers.t0 m _).run = _
          rw [ih, a1, a2]
          simp
        | some j =>
          dsimp only [Option.map_some] at ih ⊢
          rw [iter_step e]
          obtain ⟨y, hy⟩ := ih
          refine ⟨y, ?_⟩
          show (iterT lex_Numbers.t0 m _).run = _
          rw [hy]
          have : (pre ++ [x]).length + j = pre.length + (j + 1) := by simp; omega
          rw [this]

theorem Numbers_eq (l : List ByteArray) (h : l.length ≤ 60) : lex_Numbers l = some (match scan l with | (ks, none) => (ks, -1) | (_, some j) => ([], (j : Int))) := by
  have hl := Numbers_loop 0 l [] [] rounds (by simpa using h) (by simp) (rounds_gt (by omega))
  unfold lex_Numbers lex_Numbers.t lex_Numbers.l0
  have e : ((([] : List ByteArray).length + l.length : Nat) : Int) = (List.length l : Int) := by simp
  rw [e, List.nil_append] at hl
  cases hs : scan l with
  | mk ks o =>
    rw [hs] at hl
    cases o with
    | none =>
      dsimp only at hl ⊢
      have hl' : (iterT lex_Numbers.t0 rounds ([], (0 : Int), [], l, (List.length l : Int), (0 : Int), ())).run = _ := hl
      rw [hl', tr_opt, Option.bind_some]
      dsimp only
      rw [tr_yes (by decide), tr_ret, List.nil_append, List.take_length]
    | some j =>
      obtain ⟨y, hy⟩ := hl
      dsimp only at hy ⊢
      have hl' : (iterT lex_Numbers.t0 rounds ([], (0 : Int), [], l, (List.length l : Int), (0 : Int), ())).run = _ := hy
      rw [hl', tr_opt, Option.bind_some]
      dsimp only
      rw [tr_no (by decide), tr_yes (by decide), tr_ret]
      simp

theorem law_loop : ∀ (post pre : List ByteArray) (out : List Int) (m : Nat), pre.length + post.length ≤ 60 → out.length ≤ pre.length → post.length + 1 < m →
    match scan post with
    | (ks, none) => (iterT law23_LexNumbers.t0 m (pre ++ post, out, (-1 : Int), (pre.length : Int), ())).run = some (.exit 0, pre ++ post, out ++ ks, (-1 : Int), ((pre.length + post.length : Nat) : Int), ())
    | (_, some j) => ∃ w i, (iterT law23_LexNumbers.t0 m (pre ++ post, out, (-1 : Int), (pre.length : Int), ())).run = some (.exit 0, pre ++ post, w, ((pre.length + j : Nat) : Int), i, ())
  | post, pre, out, 0, _, _, hm => absurd hm (Nat.not_lt_zero _)
  | [], pre, out, m + 1, hl, ho, hm => by
    have e : (law23_LexNumbers.t0 (pre ++ [], out, (-1 : Int), (pre.length : Int), ())).run = some (.exit 0, pre ++ [], out, (-1 : Int), (pre.length : Int), ()) := by
      unfold law23_LexNumbers.t0
      dsimp only
      rw [tr_no (by simp), tr_ret]
      simp
    rw [iter_step e]
    simp [scan]
  | x :: post, pre, out, m + 1, hl, ho, hm => by
    have hl' : pre.length + post.length + 1 ≤ 60 := by simp at hl; omega
    have hc : (decide ((pre.length : Int) < (List.length (pre ++ x :: post) : Int)) && decide ((-1 : Int) < 0)) = true := by rw [Bool.and_eq_true, decide_eq_true_eq, decide_eq_true_eq, List.length_append, List.length_cons]; omega
    have hr : (decide ((out.length + 1) * 8 ≤ most)) = true := by rw [decide_eq_true_eq]; exact room (by omega) (by omega)
    cases hk : kv x with
    | none =>
      simp only [scan, hk]
      obtain ⟨_, n, e1⟩ := kv_none hk
      have e : (law23_LexNumbers.t0 (pre ++ x :: post, out, (-1 : Int), (pre.length : Int), ())).run = some (.normal, pre ++ x :: post, out ++ [n], (pre.length : Int), (pre.length : Int) + 1, ()) := by
        unfold law23_LexNumbers.t0
        dsimp only
        rw [tr_yes hc, lget_mid, tr_opt, Option.bind_some, e1, tr_opt, Option.bind_some, tr_yes (b := !false) rfl, tr_yes hr, tr_ret, take_all, W_id (by omega) (by omega)]
      have e2 : (law23_LexNumbers.t0 (pre ++ x :: post, out ++ [n], (pre.length : Int), (pre.length : Int) + 1, ())).run = some (.exit 0, pre ++ x :: post, out ++ [n], (pre.length : Int), (pre.length : Int) + 1, ()) := by
        unfold law23_LexNumbers.t0
        dsimp only
        rw [tr_no (by rw [Bool.and_eq_false_iff]; exact .inr (by rw [decide_eq_false_iff_not]; omega)), tr_ret, List.take_length]
      obtain ⟨m', rfl⟩ : ∃ m', m = m' + 1 := ⟨m - 1, by omega⟩
      rw [iter_step e]
      dsimp only
      rw [iter_step e2]
      exact ⟨_, _, rfl⟩
    | some k =>
      obtain ⟨_, e1⟩ := kv_some hk
      have a1 : pre ++ x :: post = (pre ++ [x]) ++ post := by simp
      have e : (law23_LexNumbers.t0 (pre ++ x :: post, out, (-1 : Int), (pre.length : Int), ())).run = some (.normal, (pre ++ [x]) ++ post, out ++ [k], (-1 : Int), (((pre ++ [x]).length : Nat) : Int), ()) := by
        unfold law23_LexNumbers.t0
        dsimp only
        rw [tr_yes hc, lget_mid, tr_opt, Option.bind_some, e1, tr_opt, Option.bind_some, tr_no (b := !true) rfl, tr_yes hr, tr_ret, take_all, W_id (by omega) (by omega)]
        have a3 : (pre.length : Int) + 1 = (((pre ++ [x]).length : Nat) : Int) := by simp
        rw [a1, a3]
      have ih := law_loop post (pre ++ [x]) (out ++ [k]) m (by simp; omega) (by simp; omega) (by simp at hm; omega)
      simp only [scan, hk]
      cases hs : scan post with
      | mk ks o =>
        rw [hs] at ih
        cases o with
        | none =>
          dsimp only [Option.map_none] at ih ⊢
          rw [iter_step e]
          show (iterT law23_LexNumbers.t0 m _).run = _
          rw [ih, a1]
          have : (pre ++ [x]).length + post.length = pre.length + (x :: post).length := by simp; omega
          rw [this]
          simp
        | some j =>
          dsimp only [Option.map_some] at ih ⊢
          rw [iter_step e]
          obtain ⟨w, i, hy⟩ := ih
          refine ⟨w, i, ?_⟩
          show (iterT law23_LexNumbers.t0 m _).run = _
          rw [hy, a1]
          have : (pre ++ [x]).length + j = pre.length + (j + 1) := by simp; omega
          rw [this]

theorem Ints_same (ks : List Int) (h : ks.length ≤ 60) : ref01_Ints (ks, ks) = some true := by
  have hl := iter_count (t := ref01_Ints.t0) (fun i : Nat => ((ks, ks, false, (i : Int), ()) : List Int × List Int × Bool × Int × Unit)) (e := .exit 0) (z := (ks, ks, false, (ks.length : Int), ())) (by simp) ks.length 0 rounds (fun i _ hi => by
    have hi' : i < ks.length := by omega
    unfold ref01_Ints.t0
    dsimp only
    rw [tr_yes (by rw [decide_eq_true_eq]; omega), lget_nat ks hi', tr_opt, Option.bind_some, tr_opt, Option.bind_some, tr_no (by simp), tr_ret, W_succ (by omega)]) (by
    unfold ref01_Ints.t0
    dsimp only
    rw [tr_no (by rw [decide_eq_false_iff_not]; omega), tr_ret]
    simp) (rounds_gt (by omega))
  unfold ref01_Ints ref01_Ints.t
  rw [tr_no (by simp), tr_opt]
  unfold ref01_Ints.l0
  have hl' : (iterT ref01_Ints.t0 rounds (ks, ks, false, (0 : Int), ())).run = _ := hl
  rw [hl', Option.bind_some]
  rfl

theorem scan_len : ∀ l : List ByteArray, (scan l).1.length ≤ l.length
  | [] => by simp [scan]
  | x :: l => by
    simp only [scan]
    split
    · simp
    · have := scan_len l; simp only [List.length_cons]; omega

theorem LexNumbers_short (l : List ByteArray) (h : l.length ≤ 60) : (T.opt (law23_LexNumbers.l0 (l, [], (-1 : Int), (0 : Int), ())) fun y => T.ite (exEq y.1 (Ex.exit (0 : Nat))) (T.opt (lex_Numbers y.2.1) fun y_1 => T.ite (decide (y.2.2.2.1 ≥ (0 : Int))) (T.ret ((↑(List.length y_1.fst) : Int) == (0 : Int) && y_1.snd == y.2.2.2.1)) (T.ite true (T.opt (ref01_Ints (y_1.fst, List.take y.2.2.1.length y.2.2.1)) fun y => T.ret (y && y_1.snd == (-1 : Int))) (T.ret false))) T.fail).run = some true := by
  have hl := law_loop l [] [] rounds (by simpa using h) (by simp) (rounds_gt (by omega))
  have hn := Numbers_eq l h
  have hsl := scan_len l
  rw [List.nil_append] at hl
  unfold law23_LexNumbers.l0
  cases hs : scan l with
  | mk ks o =>
    rw [hs] at hl hn hsl
    cases o with
    | none =>
      dsimp only at hl hn hsl
      have hl' : (iterT law23_LexNumbers.t0 rounds (l, [], (-1 : Int), (0 : Int), ())).run = _ := hl
      rw [hl', tr_opt, Option.bind_some]
      dsimp only
      rw [tr_yes (by decide), hn, tr_opt, Option.bind_some, tr_no (b := decide ((-1 : Int) ≥ 0)) rfl, tr_yes rfl, List.nil_append, List.take_length, Ints_same ks (by omega), tr_opt, Option.bind_some, tr_ret]
      rfl
    | some j =>
      obtain ⟨w, i, hy⟩ := hl
      dsimp only at hy hn
      have hl' : (iterT law23_LexNumbers.t0 rounds (l, [], (-1 : Int), (0 : Int), ())).run = _ := hy
      rw [hl', tr_opt, Option.bind_some]
      dsimp only
      rw [tr_yes (by decide), hn, tr_opt, Option.bind_some, tr_yes (by rw [decide_eq_true_eq]; omega), tr_ret]
      simp

theorem LexNumbers_law (l : List ByteArray) : (law23_LexNumbers.t l).run = some true := by
  unfold law23_LexNumbers.t
  by_cases h : l.length ≤ 60
  · rw [tr_no (by rw [decide_eq_false_iff_not]; omega)]
    exact LexNumbers_short l h
  · rw [tr_yes (by rw [decide_eq_true_eq]; omega), tr_yes (by simp only [Bool.and_eq_true, decide_eq_true_eq]; omega)]
    exact LexNumbers_short _ (by rw [List.length_take]; show min (60 - 0) _ ≤ 60; omega)

theorem LexNumbers_all (x : dens [.sl .str]) (_ : insAll [.sl .str] x) : (law23_LexNumbers.t x).run = some true := LexNumbers_law x
end Go.Proofs.Pen
