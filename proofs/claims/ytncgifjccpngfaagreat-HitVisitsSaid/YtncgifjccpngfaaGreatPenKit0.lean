/- A part of the proof that the law HitVisits is true of every input: an evaluator of the program and its proof. -/
import Derived.Calls
import Derived.Tactics
import Derived.Still
import Derived.Below
import Derived.Laws.World
import Derived.Laws.Sem
import Derived.WalkKit
import Derived.WalkLawsBesides
import Derived.Laws.IdiomStrings
namespace Go.Proofs.Pen
open Go

inductive T (α : Type) : Type 1 where
  | ret (a : α)
  | ite (b : Bool) (x y : T α)
  | opt {ρ : Type} (o : Option ρ) (k : ρ → T α)
  | fail

namespace T
def bind {α β : Type} : T α → (α → T β) → T β
  | .ret a, f => f a
  | .ite b x y, f => .ite b (x.bind f) (y.bind f)
  | .opt o k, f => .opt o fun r => (k r).bind f
  | .fail, _ => .fail
def run {α : Type} : T α → Option α
  | .ret a => some a
  | .ite b x y => if b = true then x.run else y.run
  | .opt o k => o.bind fun r => (k r).run
  | .fail => none
end T

def T.force {α : Type} : T α → T α
  | .ret a => .ret a
  | .ite b x y => match b with
    | true => x.force
    | false => y.force
  | .opt o k => match o with
    | some a => (k a).force
    | none => .fail
  | .fail => .fail


inductive ErrD where
  | nil
  | code (n : Int)
  | fault (c l : Int) (e : ErrD)
  deriving DecidableEq

namespace ErrD
def isNil : ErrD → Bool
  | .nil => true
  | _ => false
def isCode : ErrD → Bool
  | .code _ => true
  | _ => false
def isFault : ErrD → Bool
  | .fault _ _ _ => true
  | _ => false
def codeOf : ErrD → Int
  | .code n => n
  | _ => 0
def faultC : ErrD → Int
  | .fault c _ _ => c
  | _ => 0
def faultL : ErrD → Int
  | .fault _ l _ => l
  | _ => 0
def faultE : ErrD → ErrD
  | .fault _ _ e => e
  | _ => .nil
def does (f c : Bool) : ErrD → Bool
  | .nil => false
  | .code _ => c
  | .fault _ _ _ => f
def only (f c : Bool) (x : ErrD) : ErrD := bif x.does f c then x else .nil
def onlyF : ErrD → ErrD
  | .fault c l e => .fault c l e
  | _ => .nil
def onlyC : ErrD → ErrD
  | .code n => .code n
  | _ => .nil
def isThe (n : Int) : ErrD → Bool
  | .code m => m == n
  | _ => false
end ErrD

inductive Ty where
  | int (k : IntKind) | bool | str | flt | unit
  | pair (a b : Ty)
  | st (a : Ty)
  | sl (a : Ty)
  | ptr (a : Ty)
  | clo (f : Nat) (caps : Ty)
  | er (tf te : Nat)        -- an error: nothing, or of one of two types
  | ifi (t : Nat) (k : IntKind)  -- an interface that holds a number of a type
  deriving DecidableEq

def Ty.den : Ty → Type
  | .int _ => Int
  | .bool => Bool
  | .str => ByteArray
  | .flt => Option Nat
  | .unit => Unit
  | .pair a b => a.den × b.den
  | .st a => a.den
  | .sl a => List a.den
  | .ptr a => a.den
  | .clo _ c => c.den
  | .er _ _ => ErrD
  | .ifi _ _ => Int

def Ty.sz : Ty → Nat
  | .pair a b => a.sz + b.sz
  | .st a => a.sz
  | .unit => 0
  | _ => 1

inductive AV where
  | junk | undef
  | tt | ff
  | bo (x : Bool)
  | it (k : IntKind) (n : Int)
  | sr (x : ByteArray)
  | fl (x : Option Nat)
  | agg (cs : List AV)
  | tup (vs : List AV)
  | sl (t : Ty) (xs : List t.den)                         -- a slice that nobody changes
  | slx (t : Ty) (xs : List t.den)                        -- the same, its capacity its length
  | osl (t : Ty) (id off len : Nat) (cap : Option Nat)    -- a slice of an own row
  | ref (id off : Nat)                                    -- a pointer into own cells
  | rel (t : Ty) (id ix off : Nat)                        -- a pointer to an element of an own row
  | ptr (cs : List AV)                                    -- a pointer to cells that nobody changes
  | nilp | nilf | nili | nilsl
  | hnd (b o : Nat)                                       -- a type's own sign
  | clo (f : Nat) (first caps : List AV)
  | ifc (t : Nat) (v : AV)
  | when (t : Nat) (p : Bool) (v : AV)
  | er (tf te : Nat) (x : ErrD)
  | nsl (b : Bool) (v : AV)   -- a slice; b: it is nil
  | mpr (id : Nat)            -- an own map, of texts to truth

inductive Blk where
  | cells (cs : List AV)
  | row (t : Ty) (xs : List t.den)
  | dead
  | mp (l : List (ByteArray × Bool))

def Ty.enc : (t : Ty) → t.den → List AV
  | .int k, n => [.it k n]
  | .bool, x => [.bo x]
  | .str, x => [.sr x]
  | .flt, x => [.fl x]
  | .unit, _ => []
  | .pair a b, x => a.enc x.1 ++ b.enc x.2
  | .st a, x => a.enc x
  | .sl a, xs => [.sl a xs]
  | .ptr a, x => [.ptr (a.enc x)]
  | .clo f c, x => [.clo f [] (c.enc x)]
  | .er tf te, x => [.er tf te x]
  | .ifi t k, n => [.ifc t (.it k n)]

def Ty.av : (t : Ty) → t.den → AV
  | .st a, x => .agg (a.enc x)
  | .int k, n => .it k n
  | .bool, x => .bo x
  | .str, x => .sr x
  | .flt, x => .fl x
  | .unit, _ => .agg []
  | .pair a b, x => .agg (a.enc x.1 ++ b.enc x.2)
  | .sl a, xs => .sl a xs
  | .ptr a, x => .ptr (a.enc x)
  | .clo f c, x => .clo f [] (c.enc x)
  | .er tf te, x => .er tf te x
  | .ifi t k, n => .ifc t (.it k n)

def errOf (tf te : Nat) : Nat → AV → Option ErrD
  | 0, _ => none
  | n + 1, v => match v with
    | .nili => some .nil
    | .er tf' te' x => if tf' = tf ∧ te' = te then some x else none
    | .ifc t (.it .i64 k) => if t = te then some (.code k) else none
    | .ifc t (.agg [.it .i64 c, .it .i64 l, e]) => if t = tf then (match errOf tf te n e with
      | some x => some (.fault c l x)
      | none => none) else none
    | _ => none

def castSl {a b : Ty} (h : a = b) (xs : List a.den) : List b.den := h ▸ xs

def Ty.dec : (t : Ty) → List AV → Option (t.den × List AV)
  | .int k => fun l => match l with
    | .it k' n :: r => if k' = k then some (n, r) else none
    | _ => none
  | .bool => fun l => match l with
    | .bo x :: r => some (x, r)
    | .tt :: r => some (true, r)
    | .ff :: r => some (false, r)
    | _ => none
  | .str => fun l => match l with
    | .sr x :: r => some (x, r)
    | _ => none
  | .flt => fun l => match l with
    | .fl x :: r => some (x, r)
    | _ => none
  | .unit => fun l => some ((), l)
  | .pair a b => fun l => match a.dec l with
    | some (x, l1) => match b.dec l1 with
      | some (y, l2) => some ((x, y), l2)
      | none => none
    | none => none
  | .st a => fun l => a.dec l
  | .sl a => fun l => match l with
    | .sl a' xs :: r => if h : a' = a then some (castSl h xs, r) else none
    | .slx a' xs :: r => if h : a' = a then some (castSl h xs, r) else none
    | .nilsl :: r => some (([] : List _), r)
    | _ => none
  | .ptr a => fun l => match l with
    | .ptr cs :: r => match a.dec cs with
      | some (x, _) => some (x, r)
      | none => none
    | _ => none
  | .clo f c => fun l => match l with
    | .clo f' [] cs :: r => if f' = f then (match c.dec cs with | some (x, []) => some (x, r) | _ => none) else none
    | _ => none
  | .er tf te => fun l => match l with
    | v :: r => (match errOf tf te 8 v with
      | some x => some (x, r)
      | none => none)
    | [] => none
  | .ifi t k => fun l => match l with
    | .ifc t' (.it k' n) :: r => if t' = t ∧ k' = k then some (n, r) else none
    | _ => none

def Ty.dec1 (t : Ty) (v : AV) : Option t.den :=
  match v with
  | .agg cs => match t.dec cs with
    | some (x, []) => some x
    | _ => none
  | v => match t.dec [v] with
    | some (x, []) => some x
    | _ => none

def rowAt (own : List Blk) (id : Nat) : Blk := own.getD id .dead

mutual
def AV.frzW (own : List Blk) (g : Nat → Nat → AV) : AV → AV
  | .osl t id off len _ => match rowAt own id with
    | .row t' xs => if h : t' = t then .sl t (((castSl h xs).drop off).take len) else .junk
    | _ => .junk
  | .ref id off => g id off
  | .agg cs => .agg (AV.frzL own g cs)
  | .tup cs => .tup (AV.frzL own g cs)
  | .ptr cs => .ptr (AV.frzL own g cs)
  | .clo f a c => .clo f (AV.frzL own g a) (AV.frzL own g c)
  | .ifc t v => .ifc t (AV.frzW own g v)
  | .rel _ _ _ _ => .junk
  | .when _ _ _ => .junk
  | .nsl _ v => AV.frzW own g v
  | .mpr _ => .junk
  | v => v
def AV.frzL (own : List Blk) (g : Nat → Nat → AV) : List AV → List AV
  | [] => []
  | v :: l => AV.frzW own g v :: AV.frzL own g l
end
def AV.frz (own : List Blk) : Nat → AV → AV
  | 0 => AV.frzW own fun _ _ => .junk
  | n + 1 => AV.frzW own fun id off => match rowAt own id with
    | .cells cs => .ptr ((cs.drop off).map (AV.frz own n))
    | _ => .junk

end Go.Proofs.Pen

namespace Go.Proofs.Pen
open Go

abbrev Env := Nat → AV
structure St where
  ρ : Env
  own : List Blk
  n : Nat

def forceN {β : Type 1} (n : Nat) (k : Nat → β) : β := match n with
  | 0 => k 0
  | m + 1 => k (m + 1)
theorem forceN_eq {β : Type 1} (n : Nat) (k : Nat → β) : forceN n k = k n := by cases n <;> rfl
def forceI {β : Type 1} (n : Int) (k : Int → β) : β := match n with
  | .ofNat m => forceN m fun m => k (.ofNat m)
  | .negSucc m => forceN m fun m => k (.negSucc m)
theorem forceI_eq {β : Type 1} (n : Int) (k : Int → β) : forceI n k = k n := by
  cases n
  · unfold forceI; exact forceN_eq _ _
  · unfold forceI; exact forceN_eq _ _
def forceF {β : Type 1} (o : Option Nat) (k : Option Nat → β) : β := match o with
  | none => k none
  | some n => forceN n fun n => k (some n)
theorem forceF_eq {β : Type 1} (o : Option Nat) (k : Option Nat → β) : forceF o k = k o := by
  cases o
  · rfl
  · unfold forceF; exact forceN_eq _ _
def forceB {β : Type 1} (b : Bool) (k : Bool → β) : β := match b with
  | true => k true
  | false => k false
theorem forceB_eq {β : Type 1} (b : Bool) (k : Bool → β) : forceB b k = k b := by cases b <;> rfl
def forceU {β : Type 1} : List UInt8 → (List UInt8 → β) → β
  | [], k => k []
  | b :: l, k => forceN b.toNat fun n => forceU l fun l => k (UInt8.ofNat n :: l)
theorem forceU_eq {β : Type 1} : ∀ (l : List UInt8) (k : List UInt8 → β), forceU l k = k l
  | [], k => rfl
  | b :: l, k => by rw [forceU, forceN_eq, forceU_eq l, UInt8.ofNat_toNat]
def forceS {β : Type 1} (s : ByteArray) (k : ByteArray → β) : β := match s with
  | ⟨⟨l⟩⟩ => forceU l fun l => k ⟨⟨l⟩⟩
theorem forceS_eq {β : Type 1} (s : ByteArray) (k : ByteArray → β) : forceS s k = k s := by
  obtain ⟨⟨l⟩⟩ := s
  exact forceU_eq l _
def forceXs {α : Type} {β : Type 1} (f : α → (α → β) → β) : List α → (List α → β) → β
  | [], k => k []
  | x :: l, k => f x fun x => forceXs f l fun l => k (x :: l)
theorem forceXs_eq {α : Type} {β : Type 1} {f : α → (α → β) → β} (hf : ∀ x k, f x k = k x) : ∀ (l : List α) (k : List α → β), forceXs f l k = k l
  | [], k => rfl
  | x :: l, k => by rw [forceXs, hf, forceXs_eq hf l]
def forceD {β : Type 1} : (t : Ty) → t.den → (t.den → β) → β
  | .int _, x, k => forceI x k
  | .bool, x, k => forceB x k
  | .str, x, k => forceS x k
  | .flt, x, k => forceF x k
  | .unit, x, k => k x
  | .pair a b, x, k => match x with
    | (u, v) => forceD a u fun u => forceD b v fun v => k (u, v)
  | .st a, x, k => forceD a x k
  | .sl a, x, k => forceXs (forceD a) x k
  | .ptr a, x, k => forceD a x k
  | .clo _ c, x, k => forceD c x k
  | .er _ _, x, k => k x
  | .ifi _ _, x, k => forceI x k
theorem forceD_eq {β : Type 1} : ∀ (t : Ty) (x : t.den) (k : t.den → β), forceD t x k = k x
  | .int _, x, k => forceI_eq x k
  | .bool, x, k => forceB_eq x k
  | .str, x, k => forceS_eq x k
  | .flt, x, k => forceF_eq x k
  | .unit, x, k => rfl
  | .pair a b, (u, v), k => by rw [forceD, forceD_eq a, forceD_eq b]
  | .st a, x, k => forceD_eq a x k
  | .sl a, x, k => forceXs_eq (forceD_eq a) x k
  | .ptr a, x, k => forceD_eq a x k
  | .clo _ c, x, k => forceD_eq c x k
  | .er _ _, x, k => rfl
  | .ifi _ _, x, k => forceI_eq x k
mutual
def forceAV {β : Type 1} : AV → (AV → β) → β
  | .agg cs, k => forceL cs fun cs => k (.agg cs)
  | .tup cs, k => forceL cs fun cs => k (.tup cs)
  | .ptr cs, k => forceL cs fun cs => k (.ptr cs)
  | .clo f a c, k => forceL a fun a => forceL c fun c => k (.clo f a c)
  | .ifc t v, k => forceAV v fun v => k (.ifc t v)
  | .when t p v, k => forceAV v fun v => k (.when t p v)
  | .nsl b v, k => forceAV v fun v => k (.nsl b v)
  | .osl t id off len c, k => forceN id fun id => k (.osl t id off len c)
  | .ref id off, k => forceN id fun id => forceN off fun off => k (.ref id off)
  | .rel t id ix off, k => forceN id fun id => k (.rel t id ix off)
  | .junk, k => k .junk
  | .undef, k => k .undef
  | .tt, k => k .tt
  | .ff, k => k .ff
  | .bo x, k => forceB x fun x => k (.bo x)
  | .it i n, k => forceI n fun n => k (.it i n)
  | .sr x, k => forceS x fun x => k (.sr x)
  | .fl x, k => forceF x fun x => k (.fl x)
  | .sl t xs, k => forceXs (forceD t) xs fun xs => k (.sl t xs)
  | .slx t xs, k => forceXs (forceD t) xs fun xs => k (.slx t xs)
  | .mpr id, k => forceN id fun id => k (.mpr id)
  | .nilp, k => k .nilp
  | .nilf, k => k .nilf
  | .nili, k => k .nili
  | .nilsl, k => k .nilsl
  | .hnd b o, k => k (.hnd b o)
  | .er a b x, k => k (.er a b x)
def forceL {β : Type 1} : List AV → (List AV → β) → β
  | [], k => k []
  | v :: l, k => forceAV v fun v => forceL l fun l => k (v :: l)
end
mutual
theorem forceAV_eq {β : Type 1} : ∀ (v : AV) (k : AV → β), forceAV v k = k v
  | .agg cs, k => by rw [forceAV, forceL_eq cs]
  | .tup cs, k => by rw [forceAV, forceL_eq cs]
  | .ptr cs, k => by rw [forceAV, forceL_eq cs]
  | .clo f a c, k => by rw [forceAV, forceL_eq a, forceL_eq c]
  | .ifc t v, k => by rw [forceAV, forceAV_eq v]
  | .when t p v, k => by rw [forceAV, forceAV_eq v]
  | .nsl b v, k => by rw [forceAV, forceAV_eq v]
  | .osl t id off len c, k => by rw [forceAV, forceN_eq]
  | .ref id off, k => by rw [forceAV, forceN_eq, forceN_eq]
  | .rel t id ix off, k => by rw [forceAV, forceN_eq]
  | .junk, k => by rw [forceAV]
  | .undef, k => by rw [forceAV]
  | .tt, k => by rw [forceAV]
  | .ff, k => by rw [forceAV]
  | .bo x, k => by rw [forceAV, forceB_eq]
  | .it i n, k => by rw [forceAV, forceI_eq]
  | .sr x, k => by rw [forceAV, forceS_eq]
  | .fl x, k => by rw [forceAV, forceF_eq]
  | .sl t xs, k => by rw [forceAV, forceXs_eq (forceD_eq t)]
  | .slx t xs, k => by rw [forceAV, forceXs_eq (forceD_eq t)]
  | .mpr id, k => by rw [forceAV, forceN_eq]
  | .nilp, k => by rw [forceAV]
  | .nilf, k => by rw [forceAV]
  | .nili, k => by rw [forceAV]
  | .nilsl, k => by rw [forceAV]
  | .hnd b o, k => by rw [forceAV]
  | .er a b x, k => by rw [forceAV]
theorem forceL_eq {β : Type 1} : ∀ (l : List AV) (k : List AV → β), forceL l k = k l
  | [], k => by rw [forceL]
  | v :: l, k => by rw [forceL, forceAV_eq v, forceL_eq l]
end
def forceOwn {β : Type 1} : List Blk → (List Blk → β) → β
  | [], k => k []
  | .cells cs :: l, k => forceL cs fun cs => forceOwn l fun l => k (.cells cs :: l)
  | .row t xs :: l, k => forceXs (forceD t) xs fun xs => forceOwn l fun l => k (.row t xs :: l)
  | .dead :: l, k => forceOwn l fun l => k (.dead :: l)
  | .mp m :: l, k => forceXs (fun x k => forceS x.1 fun s => forceB x.2 fun b => k (s, b)) m fun m => forceOwn l fun l => k (.mp m :: l)
theorem forceOwn_eq {β : Type 1} : ∀ (l : List Blk) (k : List Blk → β), forceOwn l k = k l
  | [], k => rfl
  | .cells cs :: l, k => by rw [forceOwn, forceL_eq, forceOwn_eq l]
  | .row t xs :: l, k => by rw [forceOwn, forceXs_eq (forceD_eq t), forceOwn_eq l]
  | .dead :: l, k => by rw [forceOwn, forceOwn_eq l]
  | .mp m :: l, k => by rw [forceOwn, forceXs_eq (fun x k => by rw [forceS_eq, forceB_eq]), forceOwn_eq l]
def slotsOf {β : Type 1} (ρ : Env) : Nat → List AV → (List AV → β) → β
  | 0, acc, k => k acc
  | m + 1, acc, k => forceAV (ρ m) fun v => slotsOf ρ m (v :: acc) k
theorem slotsOf_eq {β : Type 1} (ρ : Env) : ∀ (n : Nat) (acc : List AV) (k : List AV → β), slotsOf ρ n acc k = k ((List.range n).map ρ ++ acc)
  | 0, acc, k => rfl
  | m + 1, acc, k => by rw [slotsOf, forceAV_eq, slotsOf_eq ρ m, List.range_succ, List.map_append, List.append_assoc]; rfl
def envOf (vs : List AV) (ρ : Env) : Env := fun s => match vs[s]? with
  | some v => v
  | none => ρ s
theorem envOf_eq (n : Nat) (ρ : Env) : envOf ((List.range n).map ρ ++ []) ρ = ρ := by
  funext s
  unfold envOf
  rw [List.append_nil]
  rcases Nat.lt_or_ge s n with h | h
  · rw [List.getElem?_map, List.getElem?_range h]; rfl
  · rw [List.getElem?_eq_none (by rw [List.length_map, List.length_range]; exact h)]
def forceSt {β : Type 1} (st : St) (k : St → β) : β := forceOwn st.own fun own => slotsOf st.ρ st.n [] fun vs => k ⟨envOf vs st.ρ, own, st.n⟩
theorem forceSt_eq {β : Type 1} (st : St) (k : St → β) : forceSt st k = k st := by
  unfold forceSt
  rw [forceOwn_eq, slotsOf_eq, envOf_eq]

inductive Ex where
  | normal | exit (id : Nat) | ret

structure Fns where
  quiet : Nat → List AV → T AV
  deep : Nat → List AV → List Blk → T (AV × List Blk)
  fuel : Nat := 0     -- how many rounds of a loop that is not told
  closed : Bool := false  -- nothing unknown: tests are decided at once
  ctrl : Bool := false    -- no test of this function is unknown
  frz : Bool := false     -- bytes made of a string are data that nobody changes
  frc : Bool := false     -- states are worked out behind each region

def ofConst : Value → AV
  | .bool true => .tt
  | .bool false => .ff
  | .int k n => .it k n
  | .float .f64 x => .fl (some x)
  | .string s => .sr s
  | .pointer none => .nilp
  | .slice none 0 0 => .nilsl
  | .nilFunc => .nilf
  | .nilIface => .nili
  | _ => .junk

def AV.cells : AV → List AV
  | .agg cs => cs
  | v => [v]

def AV.known : AV → Bool
  | .junk => false
  | .when _ _ _ => false
  | .hnd _ _ => false
  | _ => true

def AV.isCell : AV → Bool
  | .junk => false
  | .undef => false
  | .hnd _ _ => false
  | .agg _ => false
  | .tup _ => false
  | .when _ _ _ => false
  | _ => true

def zeroCells (P : Program) (t : TypeId) : Option (List AV) :=
  match (P.info? t).bind (·.zero) with
  | some (.agg cs) => some (cs.toList.map ofConst)
  | some v => some [ofConst v]
  | none => none

def isAggT (P : Program) (t : TypeId) : Bool :=
  match P.underlying t with
  | some (.struct _) => true
  | some (.array _ _) => true
  | _ => false

def szT (P : Program) (t : TypeId) : Option Nat := (P.info? t).map (·.size)

def zeroAV (P : Program) (t : TypeId) : Option AV :=
  match zeroCells P t with
  | some cs => if isAggT P t then some (.agg cs) else (match cs with | [c] => some c | _ => none)
  | none => none

def zeroV (P : Program) (t : TypeId) : Option AV :=
  match (P.info? t).bind (·.zero) with
  | some (.agg cs) => some (.agg (cs.toList.map ofConst))
  | some v => some (ofConst v)
  | none => none

def pairs : List Ty → Ty
  | [] => .unit
  | [a] => a
  | a :: l => .pair a (pairs l)

def tyOf (P : Program) : Nat → TypeId → Option Ty
  | 0, _ => none
  | n + 1, t =>
    match P.underlying t with
    | some .bool => some .bool
    | some (.int k) => some (.int k)
    | some (.float .f64) => some .flt
    | some .string => some .str
    | some (.slice e) => (tyOf P n e).map .sl
    | some (.array k e) => (tyOf P n e).map fun a => .st (pairs (List.replicate k a))
    | some (.struct fs) => (fs.toList.mapM fun f => tyOf P n f.type).map fun l => .st (pairs l)
    | _ => none

def partAV (P : Program) (t : TypeId) (cs : List AV) (off : Nat) : T AV :=
  match szT P t, P.underlying t with
  | some n, some _ =>
    if isAggT P t then (if off + n ≤ cs.length then .ret (.agg ((cs.drop off).take n)) else .fail)
    else match cs[off]? with
      | some v => .ret v
      | none => .fail
  | _, _ => .fail

def splice (cs : List AV) (off : Nat) : List AV → List AV
  | [] => cs
  | v :: l => splice (cs.set off v) (off + 1) l

def AV.bool? : AV → Option Bool
  | .tt => some true
  | .ff => some false
  | .bo x => some x
  | _ => none

def bop (op : BinOp) (a b : Nat) : Option Nat :=
  match op with
  | .add => FloatKind.f64.format.add a b
  | .sub => FloatKind.f64.format.sub a b
  | .mul => FloatKind.f64.format.mul a b
  | .quo => FloatKind.f64.format.div a b
  | _ => none

def fop (op : BinOp) (x y : Option Nat) : Option Nat :=
  match x, y with
  | some a, some b => bop op a b
  | _, _ => none

def ford (x y : Option Nat) : Option Ordering :=
  match x, y with
  | some a, some b => FloatKind.f64.format.order a b
  | _, _ => none

def fcmp (op : BinOp) (x y : Option Nat) : Option Bool :=
  let c := ford x y
  match op with
  | .eql => some (c == some .eq)
  | .neq => some (c != some .eq)
  | .lss => some (c == some .lt)
  | .leq => some (c == some .lt || c == some .eq)
  | .gtr => some (c == some .gt)
  | .geq => some (c == some .gt || c == some .eq)
  | _ => none

def icmp (op : BinOp) (x y : Int) : Option Bool :=
  match op with
  | .eql => some (x == y)
  | .neq => some (x != y)
  | .lss => some (decide (x < y))
  | .leq => some (decide (x ≤ y))
  | .gtr => some (decide (x > y))
  | .geq => some (decide (x ≥ y))
  | _ => none

def scmp (op : BinOp) (x y : ByteArray) : Option Bool :=
  let eq := x.toList == y.toList
  let lt := Op.bytesLess x.toList y.toList
  match op with
  | .eql => some eq
  | .neq => some !eq
  | .lss => some lt
  | .leq => some (lt || eq)
  | .gtr => some !(lt || eq)
  | .geq => some !lt
  | _ => none

def partV (P : Program) (t : TypeId) (cs : List AV) (off k : Nat) : AV := if isAggT P t then .agg ((cs.drop off).take k) else cs.getD off .junk

def allEq {α : Type} (step : α → Option Bool) : List α → Option Bool
  | [] => some true
  | x :: l => match l with
    | [] => step x
    | _ :: _ => match step x, allEq step l with
      | some a, some b => some (a && b)
      | _, _ => none

def cmpT (P : Program) (t : TypeId) : Bool := ((P.info? t).map (·.comparable)).getD false

def eqAV (P : Program) : Nat → TypeId → AV → AV → Option Bool
  | 0, _, _, _ => none
  | n + 1, t, x, y =>
    match P.underlying t, x, y with
    | some .bool, x, y => match x.bool?, y.bool? with
      | some a, some b => some (a == b)
      | _, _ => none
    | some (.int _), .it k a, .it k' b => if k = k' then some (a == b) else none
    | some (.float _), .fl a, .fl b => some (ford a b == some .eq)
    | some .string, .sr a, .sr b => some (a == b)
    | some (.pointer _), .nilp, .nilp => some true
    | some (.pointer _), .nilp, .ptr _ => some false
    | some (.pointer _), .ptr _, .nilp => some false
    | some (.pointer _), .nilp, .ref _ _ => some false
    | some (.pointer _), .ref _ _, .nilp => some false
    | some (.interface _), .nili, .ifc _ _ => some false
    | some (.interface _), .ifc _ _, .nili => some false
    | some (.interface _), .ifc a v, .ifc b u => if a = b then (if cmpT P a then eqAV P n a v u else none) else some false
    | some (.func _ _ _), .nilf, .nilf => some true
    | some (.func _ _ _), .nilf, .clo _ _ _ => some false
    | some (.func _ _ _), .clo _ _ _, .nilf => some false
    | some (.struct fs), .agg xs, .agg ys =>
      if P.stoodInHeld t then none else
      allEq (fun f =>
        if f.name = "_" then some true else
        match szT P f.type with
        | none => none
        | some k => eqAV P n f.type (partV P f.type xs f.offset k) (partV P f.type ys f.offset k)) fs.toList
    | some (.array k e), .agg xs, .agg ys =>
      match szT P e with
      | none => none
      | some s => allEq (fun i => eqAV P n e (partV P e xs (i * s) s) (partV P e ys (i * s) s)) (List.range' 0 k)
    | _, _, _ => none

def optT {α : Type} : Option α → T α
  | some a => .ret a
  | none => .fail

def litInt : Operand → Option Int
  | .const (.int _ n) => some n
  | _ => none

def intBin (op : BinOp) (k : IntKind) (x y : Int) : Option AV :=
  match op with
  | .add => some (.it k (k.wrap (x + y)))
  | .sub => some (.it k (k.wrap (x - y)))
  | .mul => some (.it k (k.wrap (x * y)))
  | .and => some (.it k (k.wrap (BitVec.ofInt k.bits x &&& BitVec.ofInt k.bits y).toNat))
  | .or => some (.it k (k.wrap (BitVec.ofInt k.bits x ||| BitVec.ofInt k.bits y).toNat))
  | .xor => some (.it k (k.wrap (BitVec.ofInt k.bits x ^^^ BitVec.ofInt k.bits y).toNat))
  | .andNot => some (.it k (k.wrap (BitVec.ofInt k.bits x &&& ~~~ BitVec.ofInt k.bits y).toNat))
  | op => (icmp op x y).map .bo

def isEq : BinOp → Bool
  | .eql => true
  | .neq => true
  | _ => false

def isConst : Operand → Bool
  | .const _ => true
  | _ => false

def plainAV : AV → Bool
  | .nili => false
  | .it _ _ => false
  | .fl _ => false
  | .sr _ => false
  | .junk => false
  | .hnd _ _ => false
  | .er _ _ _ => false
  | _ => true

def isI64 (P : Program) (t : Nat) : Bool := cmpT P t && match P.underlying t with
  | some (.int .i64) => true
  | _ => false

def eqT (P : Program) (t : TypeId) (ox oy : Operand) (x y : AV) : Option Bool :=
  if P.eqGuardType P.depth t then
    match P.underlying t, x, y with
    | some (.interface _), .nili, .nili => if isConst ox || isConst oy then some true else none
    | some (.interface _), .nili, .ifc _ _ => some false
    | some (.interface _), .ifc _ _, .nili => some false
    | some (.interface _), .ifc a v, .ifc b u => eqAV P 20 t (.ifc a v) (.ifc b u)
    | some (.interface _), .er _ _ x, .nili => if isConst oy then some x.isNil else none
    | some (.interface _), .nili, .er _ _ x => if isConst ox then some x.isNil else none
    | some (.interface _), .er tf te x, .ifc b (.it .i64 n) => if b = te ∧ ¬tf = te ∧ isI64 P te = true then some (x.isThe n) else none
    | _, _, _ => none
  else match P.underlying t, x, y with
    | some (.slice _), .nsl b _, .nilsl => some b
    | _, x, y => if plainAV x then eqAV P 20 t x y else none

def binAV0 (P : Program) (op : BinOp) (t : TypeId) (ox oy : Operand) (x y : AV) : T AV :=
  match op, x, y with
  | .shl, .it k a, .it _ n => .ite (decide (n < 0)) .fail (.ret (.it k (k.wrap (a * 2 ^ (min n.toNat k.bits)))))
  | .shr, .it k a, .it _ n => .ite (decide (n < 0)) .fail (.ret (.it k (a.fdiv (2 ^ (min n.toNat k.bits)))))
  | .quo, .it k a, .it k' b =>
    if k = k' then
      match litInt oy with
      | some n => if n = 0 then .fail else .ret (.it k (k.wrap (a.tdiv n)))
      | none => .ite (b == 0) .fail (.ret (.it k (k.wrap (a.tdiv b))))
    else .fail
  | .rem, .it k a, .it k' b =>
    if k = k' then
      match litInt oy with
      | some n => if n = 0 then .fail else .ret (.it k (a.tmod n))
      | none => .ite (b == 0) .fail (.ret (.it k (a.tmod b)))
    else .fail
  | op, .it k a, .it k' b => if k = k' then optT (intBin op k a b) else .fail
  | .add, .fl a, .fl b => .ret (.fl (fop .add a b))
  | .sub, .fl a, .fl b => .ret (.fl (fop .sub a b))
  | .mul, .fl a, .fl b => .ret (.fl (fop .mul a b))
  | .quo, .fl a, .fl b => .ret (.fl (fop .quo a b))
  | op, .fl a, .fl b => optT ((fcmp op a b).map .bo)
  | .add, .sr a, .sr b => .ite (decide (((a.size + b.size : Nat) : Int) > IntKind.i64.max)) .fail (.ret (.sr (a ++ b)))
  | op, .sr a, .sr b => optT ((scmp op a b).map .bo)
  | .eql, x, y => optT ((eqT P t ox oy x y).map .bo)
  | .neq, x, y => optT ((eqT P t ox oy x y).map fun b => .bo !b)
  | _, _, _ => .fail

def sureEq : AV → AV → Bool
  | .nilp, .nilp => true
  | .nilp, .ptr _ => true
  | .ptr _, .nilp => true
  | .nilp, .ref _ _ => true
  | .ref _ _, .nilp => true
  | .nilf, .nilf => true
  | .nilf, .clo _ _ _ => true
  | .clo _ _ _, .nilf => true
  | .nili, .ifc _ _ => true
  | .ifc _ _, .nili => true
  | _, _ => false

def settle : AV → AV
  | .bo true => .tt
  | .bo false => .ff
  | v => v

def binAV (P : Program) (op : BinOp) (t : TypeId) (ox oy : Operand) (x y : AV) : T AV :=
  match sureEq x y with
  | true => (binAV0 P op t ox oy x y).bind fun v => .ret (settle v)
  | false => binAV0 P op t ox oy x y

def unAV (op : UnOp) (x : AV) : T AV :=
  match op, x with
  | .neg, .it k n => .ret (.it k (k.wrap (0 - n)))
  | .xor, .it k n => .ret (.it k (k.wrap (BitVec.ofInt k.bits (if k.signed then -1 else k.max) ^^^ BitVec.ofInt k.bits n).toNat))
  | .neg, .fl o => .ret (.fl (o.map (Op.negFloat .f64)))
  | .not, .tt => .ret .ff
  | .not, .ff => .ret .tt
  | .not, .bo b => .ret (.bo !b)
  | _, _ => .fail

def bytesOf (s : ByteArray) : List Int := s.data.toList.map fun (b : UInt8) => (b.toNat : Int)
def ofBytes (l : List Int) : ByteArray := ⟨(l.map fun n => UInt8.ofNat n.toNat).toArray⟩

def f2i (k : IntKind) (o : Option Nat) : Option Int :=
  match o with
  | none => none
  | some x => match (FloatKind.f64.decode x).toInt .zero with
    | some n => if k.min ≤ n ∧ n ≤ k.max then some n else none
    | none => none

def isU8 (P : Program) (e : TypeId) : Bool :=
  match P.underlying e with
  | some (.int .u8) => true
  | _ => false

def convAV (P : Program) (src dst : TypeId) (x : AV) : T AV :=
  match P.underlying src, P.underlying dst, x with
  | some _, some (.int k), .it _ n => .ret (.it k (k.wrap n))
  | some _, some (.float .f64), .it _ n => .ret (.fl (some (FloatKind.f64.nearest n)))
  | some _, some (.int k), .fl o => .opt (f2i k o) fun n => .ret (.it k n)
  | some _, some .string, .sr s => .ret (.sr s)
  | some (.slice e), some .string, .sl (.int .u8) xs => if isU8 P e then .ret (.sr (ofBytes xs)) else .fail
  | some (.slice e), some .string, .nilsl => if isU8 P e then .ret (.sr .empty) else .fail
  | _, _, _ => .fail

def lget {α : Type} (xs : List α) (i : Int) : Option α := if i < 0 then none else xs[i.toNat]?
def sget (s : ByteArray) (i : Int) : Option Int := if i < 0 then none else (s[i.toNat]?).map fun (b : UInt8) => (b.toNat : Int)

def szOk (P : Program) (e : TypeId) (t : Ty) : Bool := match szT P e with
  | some n => n == t.sz
  | none => false

def most : Nat := 2 ^ 46

def bytesT (P : Program) (t : TypeId) : Nat := ((P.info? t).map (·.bytes)).getD 0

def listOf (own : List Blk) (t : Ty) (v : AV) : Option (List t.den) :=
  match v with
  | .nilsl => some []
  | .sl t' xs => if h : t' = t then some (castSl h xs) else none
  | .slx t' xs => if h : t' = t then some (castSl h xs) else none
  | .osl t' id off len _ => match rowAt own id with
    | .row t'' xs => if h : t'' = t then (if t' = t then some (((castSl h xs).drop off).take len) else none) else none
    | _ => none
  | .sr s => match t with
    | .int .u8 => some (bytesOf s)
    | _ => none
  | _ => none

def AV.bare1 : AV → AV
  | .nsl _ v => v
  | v => v

def appendAV (P : Program) (own : List Blk) (st : TypeId) (s x : AV) : T (AV × List Blk) :=
  match P.underlying st with
  | some (.slice e) =>
    match tyOf P 20 e, zeroCells P e with
    | some t, some z =>
      if szOk P e t && Nat.ble 1 (bytesT P e) && z.length == t.sz then
        match listOf own t x with
        | none => .fail
        | some ys =>
          match s with
          | .nilsl => .ite (decide (ys.length * bytesT P e ≤ most)) (.ret (.osl t own.length 0 ys.length none, own ++ [.row t ys])) .fail
          | .slx t' xs => if h : t' = t then
              .ite (decide ((xs.length + ys.length) * bytesT P e ≤ most)) (.ret (.sl t (castSl h xs ++ ys), own)) .fail
            else .fail
          | .osl t' id 0 len _ => if t' = t then match rowAt own id with
              | .row t'' xs => if h : t'' = t then
                  .ite (decide ((len + ys.length) * bytesT P e ≤ most))
                    (.ret (.osl t own.length 0 (len + ys.length) none, own.set id .dead ++ [.row t ((castSl h xs).take len ++ ys)])) .fail
                else .fail
              | _ => .fail
            else .fail
          | _ => .fail
      else .fail
    | _, _ => .fail
  | _ => .fail

def overL {α : Type} (xs : List α) (off : Nat) (zs : List α) : List α := xs.take off ++ zs ++ xs.drop (off + zs.length)

def copyAV (P : Program) (own : List Blk) (dt : TypeId) (d s : AV) : T (AV × List Blk) :=
  match P.underlying dt, d, s with
  | some (.slice e), .osl t id off len _, .sl t' ys =>
    if h : t' = t then
      if szOk P e t then match rowAt own id with
        | .row t'' xs => if h2 : t'' = t then
            .ret (.it .i64 (Nat.min ys.length len : Nat), own.set id (.row t (overL (castSl h2 xs) off ((castSl h ys).take len))))
          else .fail
        | _ => .fail
      else .fail
    else .fail
  | _, _, _ => .fail

def lenAV (P : Program) (t : TypeId) (x : AV) : T AV :=
  match P.underlying t, x with
  | some .string, .sr s => .ret (.it .i64 s.size)
  | some (.array n _), _ => .ret (.it .i64 n)
  | some (.slice _), .sl _ xs => .ret (.it .i64 xs.length)
  | some (.slice _), .slx _ xs => .ret (.it .i64 xs.length)
  | some (.slice _), .osl _ _ _ len _ => .ret (.it .i64 len)
  | some (.slice _), .nilsl => .ret (.it .i64 0)
  | _, _ => .fail

def ordMin (x y : Option Nat) : Option Nat :=
  match x, y with
  | some a, some b => match FloatKind.f64.format.order a b with
    | none => none
    | some .lt => some a
    | some .gt => some b
    | some .eq => some (if (FloatKind.f64.decode a).neg then a else b)
  | _, _ => none

def ordMax (x y : Option Nat) : Option Nat :=
  match x, y with
  | some a, some b => match FloatKind.f64.format.order a b with
    | none => none
    | some .gt => some a
    | some .lt => some b
    | some .eq => some (if (FloatKind.f64.decode a).neg then b else a)
  | _, _ => none

def min2 (x y : AV) : Option AV :=
  match x, y with
  | .it k a, .it k' b => if k = k' then some (.it k (if b < a then b else a)) else none
  | .fl a, .fl b => some (.fl (ordMin a b))
  | _, _ => none
def max2 (x y : AV) : Option AV :=
  match x, y with
  | .it k a, .it k' b => if k = k' then some (.it k (if b > a then b else a)) else none
  | .fl a, .fl b => some (.fl (ordMax a b))
  | _, _ => none

def foldAV (g : AV → AV → Option AV) : AV → List AV → Option AV
  | x, [] => some x
  | x, y :: l => match g x y with
    | some z => foldAV g z l
    | none => none

def among {α : Type} (i : Int) (k : Nat → T α) : Nat → Nat → T α
  | 0, _ => .fail
  | n + 1, j => .ite (i == (j : Int)) (k j) (among i k n (j + 1))

def indexAddrAV (P : Program) (_own : List Blk) (t : TypeId) (oi : Operand) (x ix : AV) : T AV :=
  match ix with
  | .it _ i =>
    match P.underlying t, x with
    | some (.slice te), .sl a xs => if szOk P te a then .opt (lget xs i) fun e => .ret (.ptr (a.enc e)) else .fail
    | some (.slice te), .slx a xs => if szOk P te a then .opt (lget xs i) fun e => .ret (.ptr (a.enc e)) else .fail
    | some (.slice te), .osl a id off len _ => if szOk P te a then .ite (decide (0 ≤ i) && decide (i < len)) (.ret (.rel a id (off + i.toNat) 0)) .fail else .fail
    | some (.array n e), .ref id off =>
      if n ≤ 1 then .fail else
      match szT P e with
      | some s => (match litInt oi with
        | some m => if 0 ≤ m ∧ m < n then .ret (.ref id (off + m.toNat * s)) else .fail
        | none => among i (fun j => .ret (.ref id (off + j * s))) n 0)
      | none => .fail
    | some (.array n e), .ptr cs =>
      if n ≤ 1 then .fail else
      match szT P e with
      | some s => (match litInt oi with
        | some m => if 0 ≤ m ∧ m < n then .ret (.ptr (cs.drop (m.toNat * s))) else .fail
        | none => among i (fun j => .ret (.ptr (cs.drop (j * s)))) n 0)
      | none => .fail
    | _, _ => .fail
  | _ => .fail

def indexAV (P : Program) (t : TypeId) (oi : Operand) (x ix : AV) : T AV :=
  match ix with
  | .it _ i =>
    match P.underlying t, x with
    | some .string, .sr s => .opt (sget s i) fun b => .ret (.it .u8 b)
    | some (.array n e), .agg cs =>
      match szT P e with
      | some s => (match litInt oi with
        | some m => if 0 ≤ m ∧ m < n then partAV P e cs (m.toNat * s) else .fail
        | none => among i (fun j => partAV P e cs (j * s)) n 0)
      | none => .fail
    | _, _ => .fail
  | _ => .fail

def bnd (dflt : Int) : Option AV → Option Int
  | none => some dflt
  | some (.it _ n) => some n
  | some _ => none

def goSlice (n : Nat) (lo hi mx : Option AV) (k : Nat → Nat → Option Nat → T AV) : T AV :=
  match bnd 0 lo, bnd n hi with
  | some l, some h =>
    match mx with
    | none => .ite (decide (0 ≤ l) && decide (l ≤ h) && decide (h ≤ n)) (k l.toNat h.toNat none) .fail
    | some (.it _ m) => (match hi with
      | some _ => .ite (decide (0 ≤ l) && decide (l ≤ h) && decide (h ≤ m) && decide (m ≤ n)) (k l.toNat h.toNat (some (m - l).toNat)) .fail
      | none => .fail)
    | some _ => .fail
  | _, _ => .fail

def cutSl (a : Ty) (xs : List a.den) (l h : Nat) : Option Nat → T AV
  | none => .ret (.sl a ((xs.drop l).take (h - l)))
  | some c => .ite (c == h - l) (.ret (.slx a ((xs.drop l).take (h - l)))) (.ret (.sl a ((xs.drop l).take (h - l))))

def sliceAV (P : Program) (t : TypeId) (x : AV) (lo hi mx : Option AV) : T AV :=
  match P.underlying t, x with
  | some .string, .sr s => (match mx with
    | none => goSlice s.size lo hi none fun l h _ => .ret (.sr (s.extract l h))
    | some _ => .fail)
  | some (.slice e), .sl a xs => if szOk P e a then goSlice xs.length lo hi mx (cutSl a xs) else .fail
  | some (.slice e), .slx a xs => if szOk P e a then goSlice xs.length lo hi mx (cutSl a xs) else .fail
  | some (.slice e), .osl a id off len _ => if szOk P e a then goSlice len lo hi mx fun l h m => .ret (.osl a id (off + l) (h - l) m) else .fail
  | some (.slice e), .nilsl => (match szT P e with
    | some _ => goSlice 0 lo hi mx fun _ _ _ => .ret .nilsl
    | none => .fail)
  | _, _ => .fail

def elemsAV (t : Ty) : List (Nat × AV) → Nat → Option (List t.den)
  | [], _ => some []
  | p :: l, j =>
    if p.1 = j then
      match t.dec1 p.2, elemsAV t l (j + 1) with
      | some x, some r => some (x :: r)
      | _, _ => none
    else none

end Go.Proofs.Pen

namespace Go.Proofs.Pen
open Go

mutual
def noOwn : AV → Bool
  | .osl _ _ _ _ _ => false
  | .ref _ _ => false
  | .rel _ _ _ _ => false
  | .when _ _ _ => false
  | .agg cs => noOwnL cs
  | .tup cs => noOwnL cs
  | .ptr cs => noOwnL cs
  | .clo _ a c => noOwnL a && noOwnL c
  | .ifc _ v => noOwn v
  | .nsl _ v => noOwn v
  | .mpr _ => false
  | _ => true
def noOwnL : List AV → Bool
  | [] => true
  | v :: l => noOwn v && noOwnL l
end

mutual
def scalar : AV → Bool
  | .osl _ _ _ _ _ => false
  | .ref _ _ => false
  | .rel _ _ _ _ => false
  | .when _ _ _ => false
  | .sl _ _ => false
  | .slx _ _ => false
  | .ptr _ => false
  | .agg cs => scalarL cs
  | .tup cs => scalarL cs
  | .clo _ a c => scalarL a && scalarL c
  | .ifc _ v => scalar v
  | .nsl _ v => scalar v
  | .mpr _ => false
  | _ => true
def scalarL : List AV → Bool
  | [] => true
  | v :: l => scalar v && scalarL l
end

def callable (P : Program) (g : Nat) : Bool :=
  match P.funcs[g]? with
  | some fn => fn.name != "runtime.NumGoroutine" && fn.body.isSome
  | none => false

def isRow : Blk → Bool
  | .row _ _ => true
  | _ => false

def ev (ρ : Env) (as : Option (Nat × Bool)) : Operand → AV
  | .tmp t => match ρ t with
    | .when t' p v => match ρ t', p with
      | .tt, true => v
      | .ff, false => v
      | _, _ => match as with
        | some (t'', p') => if t'' = t' then (if p' = p then v else .junk) else .junk
        | none => .junk
    | v => v
  | .const v => ofConst v
  | .func f => .clo f [] []
  | .global _ => .junk

def ptrField (P : Program) (s : TypeId) (x : AV) (f : Nat) : T AV :=
  match P.underlying s with
  | some (.struct fs) => match fs[f]? with
    | some fd => match szT P fd.type with
      | some 0 => .fail
      | some n => match x with
        | .ref id off => .ret (.ref id (off + fd.offset))
        | .ptr cs => if fd.offset + n ≤ cs.length then .ret (.ptr (cs.drop fd.offset)) else .fail
        | .rel a id ix off => .ret (.rel a id ix (off + fd.offset))
        | _ => .fail
      | none => .fail
    | none => .fail
  | _ => .fail

def loadAV (P : Program) (own : List Blk) (t : TypeId) (x : AV) : T AV :=
  match x with
  | .ref id off => match rowAt own id with
    | .cells cs => partAV P t cs off
    | _ => .fail
  | .ptr cs => partAV P t cs 0
  | .rel a id ix off => match rowAt own id with
    | .row a' xs => if a' = a then .opt xs[ix]? fun e => partAV P t (a'.enc e) off else .fail
    | _ => .fail
  | _ => .fail

def storeAV (P : Program) (own : List Blk) (t : TypeId) (x v : AV) : T (List Blk) :=
  match szT P t with
  | some n =>
    if v.cells.length = n ∧ v.known = true ∧ v.cells.all AV.isCell = true then
      match x with
      | .ref id off => match rowAt own id with
        | .cells cs => if off + n ≤ cs.length then .ret (own.set id (.cells (splice cs off v.cells))) else .fail
        | _ => .fail
      | .rel a id ix off => match rowAt own id with
        | .row a' xs => if a' = a then .opt xs[ix]? fun e => match a'.dec (splice (a'.enc e) off v.cells) with
            | some (e', []) => if off + n ≤ a'.sz then .ret (own.set id (.row a' (xs.set ix e'))) else .fail
            | _ => .fail
          else .fail
        | _ => .fail
      | _ => .fail
    else .fail
  | none => .fail

def fillAV (place : Nat → Option (Nat × Nat)) (cells : List AV) : List (Nat × AV) → Option (List AV)
  | [] => some cells
  | (i, v) :: rest =>
    match place i with
    | none => none
    | some (off, size) =>
      if v.cells.length = size ∧ v.known = true then (if off + size ≤ cells.length then fillAV place (splice cells off v.cells) rest else none) else none

def placesT (P : Program) : List Field → Option (List (Nat × Nat))
  | [] => some []
  | f :: l => match szT P f.type, placesT P l with
    | some s, some r => some ((f.offset, s) :: r)
    | _, _ => none

def buildAV (P : Program) (t : TypeId) (parts : List (Nat × AV)) : T AV :=
  match zeroCells P t, P.underlying t with
  | some z, some (.struct fs) =>
    match placesT P fs.toList with
    | some pl => optT ((fillAV (fun i => pl[i]?) z parts).map .agg)
    | none => .fail
  | some z, some (.array _ e) =>
    match szT P e with
    | some s => optT ((fillAV (fun i => some (i * s, s)) z parts).map .agg)
    | none => .fail
  | _, _ => .fail

def erFault (tf te : Nat) (x : ErrD) : AV := .ifc tf (.agg [.it .i64 x.faultC, .it .i64 x.faultL, .er tf te x.faultE])
def erCode (te : Nat) (x : ErrD) : AV := .ifc te (.it .i64 x.codeOf)

def zeroFault : AV → Bool
  | .agg [.it .i64 0, .it .i64 0, .nili] => true
  | _ => false
def zeroCode : AV → Bool
  | .it .i64 0 => true
  | _ => false
def isNili : AV → Bool
  | .nili => true
  | _ => false

def hasAll (want : Array (String × TypeId)) (got : Array Method) : Bool := want.toList.all fun x => got.toList.any fun m => m.name == x.1 && m.sig == x.2

def assertAV0 (P : Program) (at_ : TypeId) (x : AV) : T AV :=
  match P.underlying at_, x with
  | some (.interface _), .nili => optT ((zeroV P at_).map fun z => .tup [z, .ff])
  | some (.interface want), .ifc t v =>
    match P.info? t with
    | some i => if hasAll want i.methods then .ret (.tup [.ifc t v, .tt]) else optT ((zeroV P at_).map fun z => .tup [z, .ff])
    | none => .fail
  | some _, .nili => optT ((zeroV P at_).map fun z => .tup [z, .ff])
  | some _, .ifc t v => if t = at_ then .ret (.tup [v, .tt]) else optT ((zeroV P at_).map fun z => .tup [z, .ff])
  | _, _ => .fail

def methodsOf (P : Program) (want : Array (String × TypeId)) (t : TypeId) : Option Bool := (P.info? t).map fun i => hasAll want i.methods

def assertEr (P : Program) (at_ : TypeId) (tf te : Nat) (x : ErrD) : T AV :=
  if tf = te then .fail else
  match P.underlying at_, zeroV P at_ with
  | some (.interface want), some z => match methodsOf P want tf, methodsOf P want te with
    | some f, some c => if isNili z then (match f, c with
      | false, false => .ret (.tup [z, .ff])
      | true, false => .ret (.tup [.er tf te x.onlyF, .bo x.isFault])
      | false, true => .ret (.tup [.er tf te x.onlyC, .bo x.isCode])
      | true, true => .ret (.tup [.er tf te x, .bo (!x.isNil)])) else .fail
    | _, _ => .fail
  | some _, some z =>
    if at_ = tf then (if zeroFault z then .ret (.tup [.agg [.it .i64 x.faultC, .it .i64 x.faultL, .er tf te x.faultE], .bo x.isFault]) else .fail)
    else if at_ = te then (if zeroCode z then .ret (.tup [.it .i64 x.codeOf, .bo x.isCode]) else .fail)
    else .ret (.tup [z, .ff])
  | _, _ => .fail

def assertAV (P : Program) (at_ : TypeId) (x : AV) : T AV :=
  match x with
  | .er tf te x => assertEr P at_ tf te x
  | x => assertAV0 P at_ x

def invOf (P : Program) (name : String) (x : AV) (args : List AV) : Option (Nat × List AV) :=
  match x with
  | .ifc t v => match (P.info? t).bind fun i => i.methods.find? fun m => m.name == name with
    | some m => match m.path.toList, m.func, P.underlying t with
      | [], some (f, ptr), some (.pointer _) => if ptr then some (f, v :: args) else none
      | [], some (f, ptr), some _ => if ptr then none else some (f, v :: args)
      | _, _, _ => none
    | none => none
  | _ => none

def invT (P : Program) (q : Nat → List AV → T AV) (own : List Blk) (name : String) (x : AV) (args : List AV) : T AV :=
  match invOf P name x args with
  | some (g, l) => if noOwnL l then q g l else (q g (l.map (AV.frz own 6))).bind fun x => if scalar x then .ret x else .fail
  | none => .fail

def callOf (f : AV) (args : List AV) : Option (Nat × List AV) :=
  match f with
  | .clo f first caps => some (f, first ++ args ++ caps)
  | _ => none

def zeroCut (lo hi mx : Option Operand) : Bool :=
  match lo, hi, mx with
  | none, some h, some m => match litInt h, litInt m with
    | some 0, some 0 => true
    | _, _ => false
  | _, _, _ => false
def sliceOf (v : AV) : Option Ty :=
  match v with
  | .sl a _ => some a
  | .slx a _ => some a
  | .osl a _ _ _ _ => some a
  | _ => none

def isMapT (P : Program) (t : TypeId) : Bool :=
  match P.underlying t with
  | some (.map k e) => (match P.underlying k, zeroV P e with
    | some .string, some .ff => true
    | _, _ => false)
  | _ => false
def mget : List (ByteArray × Bool) → ByteArray → Option Bool
  | [], _ => none
  | x :: l, k => if x.1 == k then some x.2 else mget l k
def mset : List (ByteArray × Bool) → ByteArray → Bool → List (ByteArray × Bool)
  | [], k, v => [(k, v)]
  | x :: l, k, v => if x.1 == k then (k, v) :: l else x :: mset l k v

def quietOp (P : Program) (F : Fns) (own : List Blk) (e : Operand → AV) (o : Oper) : Option (T (AV × List Blk)) :=
  let v (t : T AV) : Option (T (AV × List Blk)) := some (t.bind fun x => .ret (x, own))
  let new (x : AV) (b : Blk) : T (AV × List Blk) := .ret (x, own ++ [b])
  match o.op with
  | .move x => v (.ret (e x))
  | .assign x => v (.ret (e x))
  | .alloc t => some (match zeroAV P t with
    | some z => new (.ref own.length 0) (.cells z.cells)
    | none => .fail)
  | .box _ x => some (if (e x).known then new (.ref own.length 0) (.cells (e x).cells) else .fail)
  | .build t parts => v (buildAV P t (parts.toList.map fun p => (p.1, e p.2)))
  | .buildSlice t len parts => some (match P.underlying t with
    | some (.slice el) => match tyOf P 20 el, zeroCells P el with
      | some a, some _ => match elemsAV a (parts.toList.map fun p => (p.1, e p.2)) 0 with
        | some xs => if parts.size = len ∧ len * a.sz ≤ 2 ^ 20 ∧ szOk P el a = true then new (.osl a own.length 0 len (some len)) (.row a xs) else .fail
        | none => .fail
      | _, _ => .fail
    | _ => .fail)
  | .makeSlice t l c => some (match P.underlying t with
    | some (.slice el) => match tyOf P 20 el, zeroAV P el, e l, e c with
      | some a, some zv, .it _ n, .it _ m => match a.dec1 zv with
        | some z => if szOk P el a = true then
            .ite (decide (0 ≤ n) && decide (n ≤ m) && decide (m * bytesT P el ≤ most) && decide (m ≤ most)) (new (.osl a own.length 0 n.toNat (some m.toNat)) (.row a (List.replicate m.toNat z))) .fail
          else .fail
        | none => .fail
      | _, _, _, _ => .fail
    | _ => .fail)
  | .load t x => v (loadAV P own t (e x))
  | .nilCheck x => v (match e x with
    | .ref id off => .ret (.ref id off)
    | .ptr cs => .ret (.ptr cs)
    | .rel a id ix off => .ret (.rel a id ix off)
    | _ => .fail)
  | .binOp op t x y _ => v (binAV P op t x y (e x) (e y))
  | .unOp op _ x => v (unAV op (e x))
  | .convert src dst x => match e x with
    | .osl t' id off len c => v (match P.underlying src, P.underlying dst, listOf own (.int .u8) (.osl t' id off len c) with
      | some (.slice e), some .string, some l => if isU8 P e then .ret (.sr (ofBytes l)) else .fail
      | some (.slice _), some (.slice e), _ => if src = dst ∧ isU8 P e = true ∧ 1 ≤ len ∧ isRow (rowAt own id) = true then .ret (.osl t' id off len c) else .fail
      | _, _, _ => .fail)
    | .sr s => (match P.underlying src, P.underlying dst with
      | some .string, some (.slice el) => some (if isU8 P el then (if F.frz then .ret (.sl (.int .u8) (bytesOf s), own) else new (.osl (.int .u8) own.length 0 s.size none) (.row (.int .u8) (bytesOf s))) else .fail)
      | _, _ => v (convAV P src dst (.sr s)))
    | x => v (convAV P src dst x)
  | .makeInterface t x => v (match P.underlying t with
    | some (.interface _) => .fail
    | some _ => .ret (.ifc t (e x))
    | none => .fail)
  | .makeFunc (.func f) first caps => v (.ret (.clo f (first.toList.map e) (caps.toList.map e)))
  | .slice t x lo hi mx => (match zeroCut lo hi mx, P.underlying t, sliceOf (e x) with
    | true, some (.slice el), some a => some (if szOk P el a then new (.osl a own.length 0 0 (some 0)) (.row a []) else .fail)
    | _, _, _ => v (sliceAV P t (e x) (lo.map e) (hi.map e) (mx.map e)))
  | .fieldAddr s x f => v (ptrField P s (e x) f)
  | .field t x f => v (match P.underlying t, e x with
    | some (.struct fs), .agg cs => match fs[f]? with
      | some fd => partAV P fd.type cs fd.offset
      | none => .fail
    | _, _ => .fail)
  | .indexAddr t x ix => v (indexAddrAV P own t ix (e x) (e ix))
  | .index t x ix => v (indexAV P t ix (e x) (e ix))
  | .extract x n => v (match e x with
    | .tup vs => optT vs[n]?
    | _ => .fail)
  | .call { callee := .builtin .len, args := xs, argTypes := ts } => v (match xs.toList, ts.toList with
    | [x], [t] => lenAV P t (e x)
    | _, _ => .fail)
  | .call { callee := .builtin .min, args := xs, .. } => v (match xs.toList.map e with
    | x :: l => optT (foldAV min2 x l)
    | [] => .fail)
  | .call { callee := .builtin .max, args := xs, .. } => v (match xs.toList.map e with
    | x :: l => optT (foldAV max2 x l)
    | [] => .fail)
  | .call { callee := .value f, args := xs, .. } => v (match callOf (e f) (xs.toList.map e) with
    | some (g, l) => if noOwnL l then F.quiet g l else (F.quiet g (l.map (AV.frz own 6))).bind fun x => if scalar x then .ret x else .fail
    | none => .fail)
  | .call { callee := .invoke x name, args := xs, .. } => v (match e x with
    | .er tf te y => .ite y.isFault (invT P F.quiet own name (erFault tf te y) (xs.toList.map e)) (.ite y.isCode (invT P F.quiet own name (erCode te y) (xs.toList.map e)) .fail)
    | y => invT P F.quiet own name y (xs.toList.map e))
  | .typeAssert x _ at_ true => v (assertAV P at_ (e x))
  | .makeMap t none => some (if isMapT P t then new (.mpr own.length) (.mp []) else .fail)
  | .lookup t m k ok => v (match isMapT P t, e m, e k with
    | true, .mpr id, .sr s => (match rowAt own id with
      | .mp l => .ret (match ok with
        | true => .tup [.bo ((mget l s).getD false), .bo (mget l s).isSome]
        | false => .bo ((mget l s).getD false))
      | _ => .fail)
    | _, _, _ => .fail)
  | _ => none

def notInt (P : Program) (t : TypeId) : Bool :=
  match P.underlying t with
  | some (.int _) => false
  | some _ => true
  | none => false

def aside (U : List Nat) (own : List Blk) : List Blk := (own.zipIdx).map fun x => if U.contains x.2 then .dead else x.1

mutual
def AV.ids : AV → List Nat
  | .osl _ id _ _ _ => [id]
  | .ref id _ => [id]
  | .rel _ id _ _ => [id]
  | .agg cs => AV.idsL cs
  | .tup cs => AV.idsL cs
  | .ptr cs => AV.idsL cs
  | .clo _ a c => AV.idsL a ++ AV.idsL c
  | .ifc _ v => v.ids
  | .when _ _ v => v.ids
  | .nsl _ v => v.ids
  | .mpr id => [id]
  | _ => []
def AV.idsL : List AV → List Nat
  | [] => []
  | v :: l => v.ids ++ AV.idsL l
end

def hideQ (A : List Nat) (n : Nat) : List Nat := (List.range n).filter fun i => !A.contains i

def storeFz (P : Program) (own : List Blk) (t : TypeId) (p v : AV) : T (AV × List Blk) :=
  match p with
  | .rel a id ix off =>
    if noOwn v then (storeAV P own t (.rel a id ix off) v).bind fun own => .ret (.junk, own)
    else (storeAV P (aside v.ids own) t (.rel a id ix off) (AV.frz (aside (hideQ v.ids own.length) own) 6 v)).bind fun own => .ret (.junk, own)
  | p => (storeAV P own t p v).bind fun own => .ret (.junk, own)

def loudOp (P : Program) (_F : Fns) (own : List Blk) (e : Operand → AV) (o : Oper) : T (AV × List Blk) :=
  match o.op with
  | .store t a x => storeFz P own t (e a) (e x)
  | .call { callee := .builtin .append, args := xs, argTypes := ts } => match xs.toList, ts.toList with
    | [s, x], [t, t'] => if notInt P t' then appendAV P own t (e s) (e x).bare1 else .fail
    | _, _ => .fail
  | .call { callee := .builtin .copy, args := xs, argTypes := ts } => match xs.toList, ts.toList with
    | [d, s], [t, _] => copyAV P own t (e d) (e s)
    | _, _ => .fail
  | .mapUpdate t m k x => match isMapT P t, e m, e k with
    | true, .mpr id, .sr s => (match rowAt own id, (e x).bool? with
      | .mp l, some b => .ret (.junk, own.set id (.mp (mset l s b)))
      | _, _ => .fail)
    | _, _, _ => .fail
  | _ => .fail

def put (ρ : Env) (d : Nat) (v : AV) : Env := fun s =>
  match Nat.beq s d with
  | true => v
  | false => match ρ s with
    | .when t p u => match Nat.beq t d with
      | true => .junk
      | false => .when t p u
    | u => u
theorem put_eq (ρ : Env) (d : Nat) (v : AV) (s : Nat) : put ρ d v s = if s = d then v else match ρ s with
    | .when t p u => if t = d then .junk else .when t p u
    | u => u := by
  unfold put
  by_cases h : s = d
  · rw [if_pos h, show Nat.beq s d = true from by subst h; exact Nat.beq_refl s]
  · rw [if_neg h, show Nat.beq s d = false from Bool.eq_false_iff.2 fun e => h (Nat.eq_of_beq_eq_true e)]
    dsimp only
    split
    · rename_i t p u e
      by_cases h2 : t = d
      · rw [if_pos h2, show Nat.beq t d = true from by subst h2; exact Nat.beq_refl t]
      · rw [if_neg h2, show Nat.beq t d = false from Bool.eq_false_iff.2 fun e => h2 (Nat.eq_of_beq_eq_true e)]
    · rfl

def know (ρ : Env) (d : Nat) (v : AV) : Env := fun s => match Nat.beq s d with
  | true => v
  | false => ρ s
theorem know_eq (ρ : Env) (d : Nat) (v : AV) (s : Nat) : know ρ d v s = if s = d then v else ρ s := by
  unfold know
  by_cases h : s = d
  · rw [if_pos h, show Nat.beq s d = true from by subst h; exact Nat.beq_refl s]
  · rw [if_neg h, show Nat.beq s d = false from Bool.eq_false_iff.2 fun e => h (Nat.eq_of_beq_eq_true e)]

def early (o : Oper) : Bool :=
  match o.op with
  | .move _ => true
  | .binOp .quo _ _ _ _ => false
  | .binOp .rem _ _ _ _ => false
  | .binOp .shl _ _ _ _ => false
  | .binOp .shr _ _ _ _ => false
  | .binOp _ _ _ _ _ => true
  | .unOp _ _ _ => true
  | .pick _ _ _ => true
  | .fieldAddr _ _ _ => true
  | .field _ _ _ => true
  | .load _ _ => true
  | .call { callee := .builtin .len, .. } => true
  | .call { callee := .builtin .min, .. } => true
  | .call { callee := .builtin .max, .. } => true
  | _ => false

def pickAV (c : AV) (a b : AV) : Option AV :=
  match c with
  | .tt => some a
  | .ff => some b
  | .bo x => match a, b with
    | .tt, .tt => some .tt
    | .tt, .ff => some (.bo x)
    | .ff, .ff => some .ff
    | .ff, .tt => some (.bo !x)
    | .bo y, .ff => some (.bo (x && y))
    | .tt, .bo y => some (.bo (x || y))
    | .bo y, .bo z => some (.bo (if x then y else z))
    | .ff, .bo z => some (.bo (!x && z))
    | .bo y, .tt => some (.bo (!x || y))
    | _, _ => none
  | _ => none

def pickOp (ρ : Env) (as : Option (Nat × Bool)) (c a b : Operand) : Option AV :=
  match c with
  | .tmp t => pickAV (ev ρ as c) (ev ρ (some (t, true)) a) (ev ρ (some (t, false)) b)
  | _ => pickAV (ev ρ as c) (ev ρ as a) (ev ρ as b)

def opTmps (o : Oper) : List Nat := o.op.operands.toList.filterMap fun
  | .tmp t => some t
  | _ => none

def evO (o : Oper) (ρ : Env) (as : Option (Nat × Bool)) : Operand → AV
  | .tmp t => if (opTmps o).contains t then ev ρ as (.tmp t) else .junk
  | x => ev ρ as x

def doOp (P : Program) (F : Fns) (D : Nat → Bool) (loud : Bool) (as : Option (Nat × Bool)) (ρ : Env) (own : List Blk) (o : Oper) : T (AV × List Blk) :=
  match o.op with
  | .pick c a b => match pickOp ρ as c a b with
    | some v => .ret (v, own)
    | none => .fail
  | .call { callee := .value f, args := xs, .. } => match callOf (evO o ρ as f) (xs.toList.map (evO o ρ as)) with
    | some (g, l) => if (D g && loud) then F.deep g l own
        else match quietOp P F own (evO o ρ as) o with
          | some t => t
          | none => .fail
    | none => .fail
  | _ => match quietOp P F own (evO o ρ as) o with
    | some t => t
    | none => if loud then loudOp P F own (evO o ρ as) o else .fail

def lay (st : St) (d : Option Nat) (v : AV) (own : List Blk) : T St :=
  match d with
  | none => .ret { st with own := own }
  | some d => if d < st.n then .ret { st with ρ := put st.ρ d v, own := own } else .fail

def stepOp (P : Program) (F : Fns) (D : Nat → Bool) (ops : Array Oper) (loud : Bool) (st : St) (o : Oper) : T St :=
  let run (st : St) : T St := (doOp P F D loud none st.ρ st.own o).bind fun r => lay st o.dst r.1 r.2
  let skip (st : St) : T St := lay st o.dst .undef st.own
  match o.guard with
  | none => run st
  | some (g, p) =>
    match (ops[g]?).bind (·.dst) with
    | none => .fail
    | some tg =>
      let ahead : T St := (doOp P F D false (some (tg, p)) st.ρ st.own o).bind fun r =>
        if r.2.length = st.own.length ∧ o.dst ≠ some tg then lay st o.dst (.when tg p r.1) st.own else .fail
      let decided (ρ : Env) (x : Bool) : T St :=
        .ite x (let st := { st with ρ := know ρ tg .tt }; if p then run st else skip st)
               (let st := { st with ρ := know ρ tg .ff }; if p then skip st else run st)
      match st.ρ tg with
      | .tt => if p then run st else skip st
      | .ff => if p then skip st else run st
      | .undef => skip st
      | .bo x => if early o then ahead else decided st.ρ x
      | .when tg' p' (.bo x) =>
        if early o then ahead
        else match st.ρ tg' with
          | .bo y => .ite (if p' then y else !y) (decided (know st.ρ tg' (if p' then .tt else .ff)) x)
              (skip { st with ρ := know (know st.ρ tg' (if p' then .ff else .tt)) tg .undef })
          | _ => .fail
      | _ => .fail

def runOps (P : Program) (F : Fns) (D : Nat → Bool) (ops : Array Oper) (loud : Nat → Bool) : List Oper → Nat → St → T St
  | [], _, st => .ret st
  | o :: l, k, st => (stepOp P F D ops (loud k) st o).bind fun st => runOps P F D ops loud l (k + 1) st

def Env.settle (ρ : Env) : Env := fun s => match ρ s with
  | .when _ _ _ => .junk
  | v => v

def bindsOn (o : Oper) (j : Nat) : Bool := o.after.toList.any fun e => Region.binds .any e && Nat.beq e.on j

def dsts (ops : Array Oper) : List (Option Nat) := ops.toList.map (·.dst)

def okAt (ops : Array Oper) (ds : List (Option Nat)) (m k : Nat) (o : Oper) : Bool :=
  (o.after.toList.all fun e => !Region.binds .any e || Nat.blt e.on k) &&
  (Nat.ble m k ||
    (((o.looksAt ops).all fun t => ds.zipIdx.all fun d => d.1 != some t || bindsOn o d.2) &&
    (o.dst == none || (ds.take k).all fun d => d != o.dst)))

def orderly (ops : Array Oper) (m : Nat) : Bool := ops.toList.zipIdx.all fun x => okAt ops ((dsts ops).take m) m x.2 x.1

def maskOf (acc : List Nat) (o : Oper) : Nat := o.after.toList.foldr (fun e s => if Region.binds .any e then s ||| (1 <<< e.on ||| acc.getD e.on 0) else s) 0
def masks : List Oper → List Nat → List Nat
  | [], acc => acc
  | o :: l, acc => masks l (acc ++ [maskOf acc o])

def alones (ops : Array Oper) : List Bool := (masks ops.toList []).zipIdx.map fun x => Nat.beq x.1 (2 ^ x.2 - 1)

def freeTo (ops : Array Oper) : Nat := ops.size - ((alones ops).reverse.takeWhile id).length

def forcedFrom (ops : Array Oper) (m : Nat) : Bool := Nat.ble m ops.size && (masks ops.toList []).zipIdx.all fun x => Nat.blt x.2 m || Nat.beq x.1 (2 ^ x.2 - 1)

def drawOK (ops : Array Oper) : Bool := orderly ops (freeTo ops) && forcedFrom ops (freeTo ops)

def lateOf (o : Oper) : Option (TypeId × Operand × Operand) :=
  match o.guard, o.dst, o.op with
  | none, none, .store t d x => some (t, d, x)
  | _, _, _ => none

def makes (o : Oper) : Bool :=
  match o.op with
  | .alloc _ => true
  | .box _ _ => true
  | .buildSlice _ _ _ => true
  | .makeMap _ _ => true
  | _ => false

def guessN (ops : List Oper) (st : St) : Nat → Operand → Option Nat
  | 0, _ => none
  | n + 1, d => match d with
    | .tmp d => match ops.findIdx? fun o => o.dst == some d with
      | some i => match (ops[i]?).map Oper.op with
        | some (Op.fieldAddr _ x _) => guessN ops st n x
        | some (Op.nilCheck x) => guessN ops st n x
        | some (Op.move x) => guessN ops st n x
        | some (Op.assign x) => guessN ops st n x
        | _ => some (st.own.length + ((ops.take i).filter makes).length)
      | none => match st.ρ d with
        | .ref id _ => some id
        | _ => none
    | _ => none
def guessId (ops : List Oper) (st : St) (d : Operand) : Option Nat := guessN ops st 20 d

def lates (ops : List Oper) (st : St) : List Oper → Nat → List (Nat × Nat)
  | [], _ => []
  | o :: l, k => match lateOf o with
    | some (_, d, _) => match guessId ops st d with
      | some id => (k, id) :: lates ops st l (k + 1)
      | none => lates ops st l (k + 1)
    | none => lates ops st l (k + 1)

def latesOK (ops : Array Oper) (m : Nat) (ls : List (Nat × Nat)) : Bool :=
  ls.all fun p => Nat.blt p.1 m && ((ops[p.1]?).bind lateOf).isSome && ls.all fun q => (!Nat.beq p.1 q.1 || Nat.beq p.2 q.2) && (!Nat.beq p.2 q.2 || Nat.beq p.1 q.1)

def hidden (ms : List Nat) (ls : List (Nat × Nat)) (j : Nat) : List Nat :=
  ls.filterMap fun x => if Nat.testBit (ms.getD x.1 0) j then none else some x.2

def runFree (P : Program) (F : Fns) (D : Nat → Bool) (ops : Array Oper) (ms : List Nat) (ls : List (Nat × Nat)) : List Oper → Nat → St → T St
  | [], _, st => .ret st
  | o :: l, k, st => match lateOf o with
    | some _ => runFree P F D ops ms ls l (k + 1) st
    | none => (stepOp P F D ops false { st with own := aside (hidden ms ls k) st.own } o).bind fun st' =>
        if (hidden ms ls k).all (fun i => Nat.blt i st.own.length || Nat.ble st'.own.length i) then
          runFree P F D ops ms ls l (k + 1) { st' with own := st.own ++ st'.own.drop st.own.length }
        else .fail

def runLate (P : Program) (ls : List (Nat × Nat)) (ρ : Env) : List Oper → Nat → List Blk → T (List Blk)
  | [], _, own => .ret own
  | o :: l, k, own => match lateOf o with
    | some (t, d, x) => match ev ρ none d with
      | .ref id off => if ls.any (fun p => Nat.beq p.1 k && Nat.beq p.2 id) then (storeAV P own t (.ref id off) (ev ρ none x)).bind fun own => runLate P ls ρ l (k + 1) own else .fail
      | _ => .fail
    | none => runLate P ls ρ l (k + 1) own

def drawRun (P : Program) (F : Fns) (D : Nat → Bool) (ops : Array Oper) (st : St) : T St :=
  let m := freeTo ops
  let ls := lates ops.toList st (ops.toList.take m) 0
  if drawOK ops && latesOK ops m ls then
    (runFree P F D ops (masks ops.toList []) ls (ops.toList.take m) 0 st).bind fun st' =>
    (runLate P ls st'.ρ (ops.toList.take m) 0 st'.own).bind fun own =>
    runOps P F D ops (fun _ => true) (ops.toList.drop m) m { st' with own := own }
  else .fail

def Blk.ids : Blk → List Nat
  | .cells cs => AV.idsL cs
  | _ => []

def reach (own : List Blk) : Nat → List Nat → List Nat → List Nat
  | 0, _, acc => acc
  | n + 1, todo, acc => match todo with
    | [] => acc
    | i :: l => if acc.contains i then reach own n l acc else reach own n ((rowAt own i).ids ++ l) (i :: acc)

def rawOf (ρ : Env) : Operand → AV
  | .tmp t => ρ t
  | _ => .junk

def accOf (o : Oper) (ρ : Env) (own : List Blk) : List Nat :=
  match o.op with
  | .load _ x => (rawOf ρ x).ids
  | .convert _ _ x => (rawOf ρ x).ids
  | .store _ a x => (rawOf ρ a).ids ++ (match rawOf ρ a with
    | .rel _ _ _ _ => (rawOf ρ x).ids
    | _ => [])
  | .call { callee := .builtin .append, args := xs, .. } => AV.idsL (xs.toList.map (rawOf ρ))
  | .call { callee := .builtin .copy, args := xs, .. } => AV.idsL (xs.toList.map (rawOf ρ))
  | .call { callee := .value f, args := xs, .. } => reach own 1000 ((rawOf ρ f).ids ++ AV.idsL (xs.toList.map (rawOf ρ))) []
  | .call { callee := .invoke x _, args := xs, .. } => reach own 1000 ((rawOf ρ x).ids ++ AV.idsL (xs.toList.map (rawOf ρ))) []
  | .lookup _ m _ _ => (rawOf ρ m).ids
  | .mapUpdate _ m _ _ => (rawOf ρ m).ids
  | _ => []

def writes (o : Oper) : Bool :=
  match o.op with
  | .store _ _ _ => true
  | .call { callee := .builtin .append, .. } => true
  | .call { callee := .builtin .copy, .. } => true
  | .mapUpdate _ _ _ _ => true
  | _ => false

def calls (o : Oper) : Bool :=
  match o.op with
  | .call { callee := .value _, .. } => true
  | _ => false

structure Rec where
  k : Nat
  loud : Bool
  acc : List Nat      -- what it may look at, or makes
  touch : List Nat    -- what it may write
  n0 : Nat
  n1 : Nat



def unhide (U : List Nat) (own own' : List Blk) : List Blk := (own.zipIdx.map fun x => if U.contains x.2 then x.1 else own'.getD x.2 .dead) ++ own'.drop own.length

def testsOf (ρ : Env) (l : List Nat) : List Nat := l.filterMap fun t => match ρ t with
  | .when t' _ _ => some t'
  | _ => none
def lookT (ops : Array Oper) (ρ : Env) (o : Oper) : List Nat := let l := o.looksAt ops; let l1 := testsOf ρ l; l ++ l1 ++ testsOf ρ l1

def below (ρ : Env) (n : Nat) (l : List Nat) : Bool := l.all fun t => (match ρ t with
  | .when t' _ _ => l.contains t'
  | _ => true) && (ρ t).ids.all fun i => Nat.blt i n
def ownBelow (U : List Nat) (own : List Blk) : Bool := (List.range own.length).all fun i => U.contains i || (rowAt own i).ids.all fun j => Nat.blt j own.length

def finAll (k : Nat) (st : St) (loud : Bool) (A : List Nat) (t : T St) : T (St × Rec) := t.bind fun st' =>
  if Nat.ble st.own.length st'.own.length then
    .ret ({ st' with own := unhide (hideQ A st.own.length) st.own st'.own }, ⟨k, loud, A ++ List.range' st.own.length (st'.own.length - st.own.length), A, st.own.length, st'.own.length⟩)
  else .fail

def quietAt (P : Program) (F : Fns) (D : Nat → Bool) (ops : Array Oper) (st : St) (A : List Nat) (o : Oper) : T St :=
  let t := stepOp P F D ops false { st with own := aside (hideQ A st.own.length) st.own } o
  if F.closed then t.force else t
def loudAt (P : Program) (F : Fns) (D : Nat → Bool) (ops : Array Oper) (st : St) (A : List Nat) (o : Oper) : T St :=
  let U := hideQ A st.own.length
  if below st.ρ st.own.length (lookT ops st.ρ o) && ownBelow U st.own then stepOp P F D ops true { st with own := aside U st.own } o else .fail

def stepAll (P : Program) (F : Fns) (D : Nat → Bool) (lf : Bool) (ops : Array Oper) (k : Nat) (st : St) (o : Oper) : T (St × Rec) :=
  let A := accOf o st.ρ st.own
  if writes o || (lf && calls o && !A.isEmpty) then finAll k st true A (loudAt P F D ops st A o)
  else match quietAt P F D ops st A o with
    | .fail => if calls o then finAll k st true A (loudAt P F D ops st A o) else .fail
    | t => finAll k st false A t

def runAll (P : Program) (F : Fns) (D : Nat → Bool) (lf : Bool) (ops : Array Oper) : List Oper → Nat → St → List Rec → T (St × List Rec)
  | [], _, st, rs => .ret (st, rs)
  | o :: l, k, st, rs => (stepAll P F D lf ops k st o).bind fun x => runAll P F D lf ops l (k + 1) x.1 (rs ++ [x.2])

def ordered (ms : List Nat) (j k : Nat) : Bool := Nat.testBit (ms.getD k 0) j || Nat.testBit (ms.getD j 0) k

def pairOK (ms : List Nat) (a b : Rec) : Bool :=
  !a.loud || Nat.beq a.k b.k || ordered ms a.k b.k || (!b.loud && b.acc.all fun i => Nat.ble a.n0 i || !a.touch.contains i)

def recsOK (ms : List Nat) (rs : List Rec) : Bool := rs.all fun a => rs.all fun b => pairOK ms a b

def drawB (P : Program) (F : Fns) (D : Nat → Bool) (lf : Bool) (ops : Array Oper) (st : St) : T St :=
  let m := freeTo ops
  if drawOK ops then
    (runAll P F D lf ops (ops.toList.take m) 0 st []).bind fun r =>
    if recsOK (masks ops.toList []) r.2 then runOps P F D ops (fun _ => true) (ops.toList.drop m) m r.1 else .fail
  else .fail

def drawAll (P : Program) (F : Fns) (D : Nat → Bool) (ops : Array Oper) (st : St) : T St :=
  if F.closed then match (drawB P F D true ops st).force with
    | .fail => drawB P F D false ops st
    | t => t
  else drawB P F D false ops st

def mayWrite (D : Nat → Bool) (o : Oper) : Bool :=
  match o.op with
  | .call { callee := .builtin .append, .. } => true
  | .call { callee := .builtin .copy, .. } => true
  | .call { callee := .value (.func g), .. } => D g
  | .call { callee := .value _, .. } => true
  | .store _ _ _ => o.guard.isSome
  | .mapUpdate _ _ _ _ => true
  | _ => false

def storeIx (ops : Array Oper) (o : Oper) : Bool :=
  match o.op with
  | .store _ (.tmp d) _ => match ops.find? fun x => x.dst == some d with
    | some x => (match x.op with
      | .indexAddr _ _ _ => true
      | _ => false)
    | none => false
  | _ => false

def drawAny (P : Program) (F : Fns) (D : Nat → Bool) (ops : Array Oper) (st : St) : T St :=
  if (ops.toList.take (freeTo ops)).any (fun o => mayWrite D o || storeIx ops o) || !latesOK ops (freeTo ops) (lates ops.toList st (ops.toList.take (freeTo ops)) 0) then drawAll P F D ops st else drawRun P F D ops st

def condSt (c : Operand) (st : St) (v : AV) : St :=
  match c with
  | .tmp t => { st with ρ := know st.ρ t v }
  | _ => st

def ifT {α : Type} (c b : Bool) (x y : T α) : T α :=
  match c with
  | true => (match b with
    | true => x
    | false => y)
  | false => .ite b x y

def loopN (f : St → T (Ex × St)) : Nat → St → T (Ex × St)
  | 0, _ => .fail
  | k + 1, st => (f st).bind fun r => match r.1 with
    | .normal => loopN f k r.2
    | e => .ret (e, r.2)

def runCode (P : Program) (F : Fns) (D : Nat → Bool) (S : Nat → Option (St → T (Ex × St))) : Code → St → T (Ex × St)
  | .skip, st => .ret (.normal, st)
  | .label _, st => .ret (.normal, st)
  | .ret, st => .ret (.ret, st)
  | .exit id, st => .ret (.exit id, st)
  | .region _ ops draw, st =>
    (if draw then drawAny P F D ops { st with ρ := st.ρ.settle }
      else runOps P F D ops (fun _ => true) ops.toList 0 st).bind fun st => match F.frc with
        | true => forceSt { st with ρ := st.ρ.settle } fun st => .ret (.normal, st)
        | false => .ret (.normal, { st with ρ := st.ρ.settle })
  | .seq x y, st => (runCode P F D S x st).bind fun r => match r.1 with
    | .normal => runCode P F D S y r.2
    | e => .ret (e, r.2)
  | .cond c x y, st => match ev st.ρ none c with
    | .tt => runCode P F D S x st
    | .ff => runCode P F D S y st
    | .bo b =>
      ifT F.ctrl b (runCode P F D S x (condSt c st .tt)) (runCode P F D S y (condSt c st .ff))
    | _ => .fail
  | .block id body, st => match S id with
    | some s => s st
    | none => (runCode P F D S body st).bind fun r => match r.1 with
      | .exit id' => if id' = id then .ret (.normal, r.2) else .ret r
      | _ => .ret r
  | .loop c, st => loopN (runCode P F D S c) F.fuel st
  | .scope c, st => runCode P F D S c st
  | _, _ => .fail

def startEnv (n : Nat) (args : List AV) : Env := fun s => if s < n then args.getD s .undef else .junk

def resAV (P : Program) (st : St) : ResultVar → T AV
  | .tmp t => .ret (match st.ρ t with
    | .when _ _ _ => .junk
    | v => v)
  | .cell a t => loadAV P st.own t (match st.ρ a with
    | .when _ _ _ => .junk
    | v => v)

def resAll (P : Program) (st : St) : List ResultVar → T (List AV)
  | [] => .ret []
  | r :: l => (resAV P st r).bind fun v => (resAll P st l).bind fun vs => .ret (v :: vs)

def tupOf : List AV → AV
  | [v] => v
  | vs => .tup vs

def runBody (P : Program) (F : Fns) (D : Nat → Bool) (S : Nat → Option (St → T (Ex × St))) (fn : Func) (args : List AV) (own : List Blk) : T (AV × List Blk) :=
  match fn.body with
  | none => .fail
  | some c => (runCode P F D S c ⟨startEnv fn.ntmps args, own, fn.ntmps⟩).bind fun r => match r.1 with
    | .exit _ => .fail
    | _ => (resAll P r.2 fn.results.toList).bind fun vs => .ret (tupOf vs, r.2.own)

def runFn (P : Program) (F : Fns) (D : Nat → Bool) (S : Nat → Option (St → T (Ex × St))) (fn : Func) (args : List AV) : T AV :=
  (runBody P F D S fn args []).bind fun x => .ret (AV.frz x.2 6 x.1)

def whole1 {α : Type} : Option (α × List AV) → Option α
  | some (x, []) => some x
  | _ => none

def Ty.decP : (t : Ty) → AV → Option t.den
  | .st a => fun v => match v with
    | .agg cs => whole1 (a.dec cs)
    | _ => none
  | .pair _ _ => fun _ => none
  | .unit => fun _ => none
  | .int k => fun v => whole1 ((Ty.int k).dec [v])
  | .bool => fun v => whole1 (Ty.bool.dec [v])
  | .str => fun v => whole1 (Ty.str.dec [v])
  | .flt => fun v => whole1 (Ty.flt.dec [v])
  | .sl a => fun v => whole1 ((Ty.sl a).dec [v])
  | .ptr a => fun v => whole1 ((Ty.ptr a).dec [v])
  | .clo f c => fun v => whole1 ((Ty.clo f c).dec [v])
  | .er tf te => fun v => whole1 ((Ty.er tf te).dec [v])
  | .ifi t k => fun v => whole1 ((Ty.ifi t k).dec [v])

def dens : List Ty → Type
  | [] => Unit
  | [t] => t.den
  | t :: u :: l => t.den × dens (u :: l)

def decs : (l : List Ty) → List AV → Option (dens l)
  | [], vs => match vs with
    | [] => some ()
    | _ :: _ => none
  | [t], vs => match vs with
    | [v] => t.decP v
    | _ => none
  | t :: u :: l, vs => match vs with
    | v :: vs => match t.decP v, decs (u :: l) vs with
      | some x, some y => some (x, y)
      | _, _ => none
    | [] => none

def encs : (l : List Ty) → dens l → List AV
  | [], _ => []
  | [t], x => [t.av x]
  | t :: u :: l, x => t.av x.1 :: encs (u :: l) x.2

def decT (l : List Ty) (v : AV) : Option (dens l) :=
  match v with
  | .tup vs => decs l vs
  | _ => none

def decR (l : List Ty) : AV → Option (dens l) :=
  match l with
  | [] => decT []
  | [t] => t.decP
  | t :: u :: l => decT (t :: u :: l)
def outR (l : List Ty) (x : dens l) : AV := tupOf (encs l x)

def entry (ps : List Ty) {ρ : Type} (out : ρ → AV) (f : dens ps → T ρ) (args : List AV) : T AV :=
  match decs ps args with
  | some x => (f x).bind fun y => .ret (out y)
  | none => .fail

def runT (P : Program) (F : Fns) (D : Nat → Bool) (S : Nat → Option (St → T (Ex × St))) (fn : Func) (args : List AV) {ρ : Type} (dec : AV → Option ρ) : T ρ :=
  (runFn P F D S fn args).bind fun v => optT (dec v)

def ext (q : Nat → List AV → T AV) (g : Nat) (c : List AV → T AV) : Nat → List AV → T AV := fun g' args => if g' = g then c args else q g' args

def noQ : Nat → List AV → T AV := fun _ _ => .fail
def noDeep : Nat → List AV → List Blk → T (AV × List Blk) := fun _ _ _ => .fail

end Go.Proofs.Pen

namespace Go.Proofs.Pen
open Go

structure Res where
  H : Addr → Option Value
  ι : Nat → Option (Nat × (Nat × Nat))   -- an own block's number; of a row: how many elements it bears, and how many are known

structure Res.le (r r' : Res) : Prop where
  H : ∀ a v, r.H a = some v → r'.H a = some v
  ι : ∀ i p, r.ι i = some p → r'.ι i = some p

theorem Res.le.refl (r : Res) : r.le r := ⟨fun _ _ h => h, fun _ _ h => h⟩
theorem Res.le.trans {a b c : Res} (h : a.le b) (k : b.le c) : a.le c := ⟨fun x v e => k.H x v (h.H x v e), fun i p e => k.ι i p (h.ι i p e)⟩

def NaN64 (x : Nat) : Prop := (FloatKind.f64.format.read x).isNaN = true

def FRel (o : Option Nat) (v : Value) : Prop :=
  match o with
  | some x => v = .float .f64 x
  | none => ∃ x, v = .float .f64 x ∧ NaN64 x

def CellsAt (H : Addr → Option Value) (p : Addr) (us : List Value) : Prop := ∀ j u, us[j]? = some u → H (p.add j) = some u

def ElemsAt {α : Type} (H : Addr → Option Value) (R : α → List Value → Prop) (sz : Nat) (xs : List α) (p : Option Addr) : Prop :=
  xs ≠ [] → ∃ ad, p = some ad ∧ ∀ i x, xs[i]? = some x → ∃ us, us.length = sz ∧ R x us ∧ CellsAt H (ad.add (i * sz)) us

def errVal (tf te : Nat) : ErrD → Value
  | .nil => .nilIface
  | .code n => .iface te (.int .i64 n)
  | .fault c l e => .iface tf (.agg #[.int .i64 c, .int .i64 l, errVal tf te e])

def TRel (H : Addr → Option Value) : (t : Ty) → t.den → List Value → Prop
  | .int k, n, vs => vs = [.int k n]
  | .bool, x, vs => vs = [.bool x]
  | .str, x, vs => vs = [.string x]
  | .flt, o, vs => ∃ v, vs = [v] ∧ FRel o v
  | .unit, _, vs => vs = []
  | .pair a b, x, vs => ∃ us ws, vs = us ++ ws ∧ TRel H a x.1 us ∧ TRel H b x.2 ws
  | .st a, x, vs => TRel H a x vs
  | .sl a, xs, vs => ∃ p c, vs = [.slice p (xs : List a.den).length c] ∧ (xs : List a.den).length ≤ c ∧ ElemsAt H (TRel H a) a.sz xs p
  | .ptr a, x, vs => ∃ p us, vs = [.pointer (some p)] ∧ TRel H a x us ∧ CellsAt H p us
  | .clo f c, x, vs => ∃ us, vs = [.func (.func f) #[] us.toArray] ∧ TRel H c x us
  | .er tf te, x, vs => vs = [errVal tf te x]
  | .ifi t k, n, vs => vs = [.iface t (.int k n)]

mutual
def VRel (r : Res) : AV → Value → Prop
  | .junk, _ => True
  | .undef, v => v = Go.undef
  | .tt, v => v = .bool true
  | .ff, v => v = .bool false
  | .bo x, v => v = .bool x
  | .it k n, v => v = .int k n
  | .sr x, v => v = .string x
  | .fl o, v => FRel o v
  | .agg cs, v => ∃ vs, v = .agg (List.toArray vs) ∧ LRel r cs vs
  | .tup cs, v => ∃ vs, v = .tuple (List.toArray vs) ∧ LRel r cs vs
  | .sl t xs, v => ∃ p c, v = .slice p xs.length c ∧ xs.length ≤ c ∧ ElemsAt r.H (TRel r.H t) t.sz xs p
  | .slx t xs, v => ∃ p, v = .slice p xs.length xs.length ∧ ElemsAt r.H (TRel r.H t) t.sz xs p
  | .osl t id off len cap, v => ∃ p c, v = .slice p len c ∧ len ≤ c ∧ (∀ c', cap = some c' → c = c') ∧
      ((len = 0 ∧ c = 0) ∨ ∃ b C, r.ι id = some (b, C) ∧ p = some ⟨b, off * t.sz, none⟩ ∧ off + c ≤ C.1 ∧ off + len ≤ C.2)
  | .ref id off, v => ∃ b C, r.ι id = some (b, C) ∧ v = .pointer (some ⟨b, off, none⟩)
  | .rel t id ix off, v => ∃ b C, r.ι id = some (b, C) ∧ v = .pointer (some ⟨b, ix * t.sz + off, none⟩)
  | .ptr cs, v => ∃ p us, v = .pointer (some p) ∧ LRel r cs us ∧ CellsAt r.H p us
  | .nilp, v => v = .pointer none
  | .nilf, v => v = .nilFunc
  | .nili, v => v = .nilIface
  | .nilsl, v => v = .slice none 0 0
  | .hnd b o, v => v = .pointer (some ⟨b, o, none⟩)
  | .clo f a c, v => ∃ us ws, v = .func (.func f) (List.toArray us) (List.toArray ws) ∧ LRel r a us ∧ LRel r c ws
  | .ifc t x, v => ∃ u, v = .iface t u ∧ VRel r x u
  | .when _ _ _, _ => False
  | .er tf te x, v => v = errVal tf te x
  | .nsl b v, u => VRel r v u ∧ ∃ p n c, u = .slice p n c ∧ p.isNone = b
  | .mpr id, u => ∃ b C, r.ι id = some (b, C) ∧ u = .map (some b)
def LRel (r : Res) : List AV → List Value → Prop
  | [], vs => vs = []
  | c :: cs, vs => ∃ v ws, vs = v :: ws ∧ VRel r c v ∧ LRel r cs ws
end

theorem CellsAt.mono {H H' : Addr → Option Value} (hH : ∀ a v, H a = some v → H' a = some v) {p : Addr} {us : List Value} (h : CellsAt H p us) : CellsAt H' p us :=
  fun j u e => hH _ _ (h j u e)

theorem ElemsAt.mono {α : Type} {H H' : Addr → Option Value} (hH : ∀ a v, H a = some v → H' a = some v) {R R' : α → List Value → Prop} {sz : Nat} {xs : List α} {p : Option Addr}
    (hR : ∀ x us, R x us → R' x us) (h : ElemsAt H R sz xs p) : ElemsAt H' R' sz xs p := fun hn => by
  obtain ⟨ad, e, hx⟩ := h hn
  exact ⟨ad, e, fun i x hi => by
    obtain ⟨us, l, hr, hc⟩ := hx i x hi
    exact ⟨us, l, hR _ _ hr, hc.mono hH⟩⟩

theorem TRel.mono {H H' : Addr → Option Value} (hH : ∀ a v, H a = some v → H' a = some v) : ∀ (t : Ty) (x : t.den) (vs : List Value), TRel H t x vs → TRel H' t x vs
  | .int _, _, _, h => h
  | .bool, _, _, h => h
  | .str, _, _, h => h
  | .flt, _, _, h => h
  | .unit, _, _, h => h
  | .pair a b, x, _, h => by
    obtain ⟨us, ws, e, h1, h2⟩ := h
    exact ⟨us, ws, e, TRel.mono hH a _ _ h1, TRel.mono hH b _ _ h2⟩
  | .st a, x, vs, h => TRel.mono hH a x vs h
  | .sl a, xs, vs, h => by
    obtain ⟨p, c, e, hl, he⟩ := h
    exact ⟨p, c, e, hl, he.mono hH (TRel.mono hH a)⟩
  | .ptr a, x, vs, h => by
    obtain ⟨p, us, e, h1, h2⟩ := h
    exact ⟨p, us, e, TRel.mono hH a _ _ h1, h2.mono hH⟩
  | .clo f c, x, vs, h => by
    obtain ⟨us, e, h1⟩ := h
    exact ⟨us, e, TRel.mono hH c _ _ h1⟩
  | .er _ _, _, _, h => h
  | .ifi _ _, _, _, h => h

mutual
theorem VRel.mono {r r' : Res} (h : r.le r') : ∀ (c : AV) (v : Value), VRel r c v → VRel r' c v
  | .junk, _, _ => by simp [VRel]
  | .undef, _, k => by simpa [VRel] using k
  | .tt, _, k => by simpa [VRel] using k
  | .ff, _, k => by simpa [VRel] using k
  | .bo _, _, k => by simpa [VRel] using k
  | .it _ _, _, k => by simpa [VRel] using k
  | .sr _, _, k => by simpa [VRel] using k
  | .fl _, _, k => by simpa [VRel] using k
  | .agg cs, _, k => by
    simp only [VRel] at k ⊢
    obtain ⟨vs, e, k⟩ := k
    exact ⟨vs, e, LRel.mono h cs vs k⟩
  | .tup cs, _, k => by
    simp only [VRel] at k ⊢
    obtain ⟨vs, e, k⟩ := k
    exact ⟨vs, e, LRel.mono h cs vs k⟩
  | .sl t xs, _, k => by
    simp only [VRel] at k ⊢
    obtain ⟨p, c, e, l, k⟩ := k
    exact ⟨p, c, e, l, k.mono h.H (TRel.mono h.H t)⟩
  | .slx t xs, _, k => by
    simp only [VRel] at k ⊢
    obtain ⟨p, e, k⟩ := k
    exact ⟨p, e, k.mono h.H (TRel.mono h.H t)⟩
  | .osl t id off len cap, _, k => by
    simp only [VRel] at k ⊢
    obtain ⟨p, c, e, l, hc, k⟩ := k
    refine ⟨p, c, e, l, hc, ?_⟩
    rcases k with k | ⟨b, C, e1, k⟩
    · exact .inl k
    · exact .inr ⟨b, C, h.ι _ _ e1, k⟩
  | .ref id off, _, k => by
    simp only [VRel] at k ⊢
    obtain ⟨b, C, e1, k⟩ := k
    exact ⟨b, C, h.ι _ _ e1, k⟩
  | .rel t id ix off, _, k => by
    simp only [VRel] at k ⊢
    obtain ⟨b, C, e1, k⟩ := k
    exact ⟨b, C, h.ι _ _ e1, k⟩
  | .ptr cs, _, k => by
    simp only [VRel] at k ⊢
    obtain ⟨p, us, e, k1, k2⟩ := k
    exact ⟨p, us, e, LRel.mono h cs us k1, k2.mono h.H⟩
  | .nilp, _, k => by simpa [VRel] using k
  | .nilf, _, k => by simpa [VRel] using k
  | .nili, _, k => by simpa [VRel] using k
  | .nilsl, _, k => by simpa [VRel] using k
  | .hnd _ _, _, k => by simpa [VRel] using k
  | .clo f a c, _, k => by
    simp only [VRel] at k ⊢
    obtain ⟨us, ws, e, k1, k2⟩ := k
    exact ⟨us, ws, e, LRel.mono h a us k1, LRel.mono h c ws k2⟩
  | .ifc t x, _, k => by
    simp only [VRel] at k ⊢
    obtain ⟨u, e, k⟩ := k
    exact ⟨u, e, VRel.mono h x u k⟩
  | .when _ _ _, _, k => by simp [VRel] at k
  | .er _ _ _, _, k => by simpa [VRel] using k
  | .nsl b v, u, k => by
    simp only [VRel] at k ⊢
    exact ⟨VRel.mono h v u k.1, k.2⟩
  | .mpr id, _, k => by
    simp only [VRel] at k ⊢
    obtain ⟨b, C, e1, k⟩ := k
    exact ⟨b, C, h.ι _ _ e1, k⟩
theorem LRel.mono {r r' : Res} (h : r.le r') : ∀ (cs : List AV) (vs : List Value), LRel r cs vs → LRel r' cs vs
  | [], _, k => by simpa [LRel] using k
  | c :: cs, _, k => by
    simp only [LRel] at k ⊢
    obtain ⟨v, ws, e, k1, k2⟩ := k
    exact ⟨v, ws, e, VRel.mono h c v k1, LRel.mono h cs ws k2⟩
end

theorem LRel.length {r : Res} : ∀ {cs : List AV} {vs : List Value}, LRel r cs vs → vs.length = cs.length
  | [], vs, h => by simp [LRel] at h; simp [h]
  | c :: cs, vs, h => by
    simp only [LRel] at h
    obtain ⟨v, ws, rfl, _, h⟩ := h
    simp [h.length]

theorem LRel.append {r : Res} : ∀ {cs ds : List AV} {vs ws : List Value}, LRel r cs vs → LRel r ds ws → LRel r (cs ++ ds) (vs ++ ws)
  | [], ds, vs, ws, h, k => by simp [LRel] at h; subst h; simpa using k
  | c :: cs, ds, vs, ws, h, k => by
    simp only [LRel] at h
    obtain ⟨v, us, rfl, h1, h2⟩ := h
    simp only [List.cons_append, LRel]
    exact ⟨v, us ++ ws, rfl, h1, h2.append k⟩

theorem LRel.get {r : Res} : ∀ {cs : List AV} {vs : List Value}, LRel r cs vs → ∀ {i : Nat} {c : AV}, cs[i]? = some c → ∃ v, vs[i]? = some v ∧ VRel r c v
  | [], vs, h, i, c, e => by simp at e
  | d :: cs, vs, h, i, c, e => by
    simp only [LRel] at h
    obtain ⟨v, us, rfl, h1, h2⟩ := h
    cases i with
    | zero => simp at e; subst e; exact ⟨v, by simp, h1⟩
    | succ i => simp at e; obtain ⟨u, k1, k2⟩ := h2.get e; exact ⟨u, by simpa using k1, k2⟩

theorem LRel.drop {r : Res} : ∀ {cs : List AV} {vs : List Value}, LRel r cs vs → ∀ n, LRel r (cs.drop n) (vs.drop n)
  | [], vs, h, n => by simp [LRel] at h; subst h; simp [LRel]
  | d :: cs, vs, h, n => by
    have h' := h
    simp only [LRel] at h'
    obtain ⟨v, us, rfl, h1, h2⟩ := h'
    cases n with
    | zero => simpa using h
    | succ n => simpa using h2.drop n

theorem LRel.take {r : Res} : ∀ {cs : List AV} {vs : List Value}, LRel r cs vs → ∀ n, LRel r (cs.take n) (vs.take n)
  | [], vs, h, n => by simp [LRel] at h; subst h; simp [LRel]
  | d :: cs, vs, h, n => by
    simp only [LRel] at h
    obtain ⟨v, us, rfl, h1, h2⟩ := h
    cases n with
    | zero => simp [LRel]
    | succ n => simp only [List.take_succ_cons, LRel]; exact ⟨v, us.take n, rfl, h1, h2.take n⟩

theorem LRel.set {r : Res} : ∀ {cs : List AV} {vs : List Value}, LRel r cs vs → ∀ (n : Nat) {c : AV} {v : Value}, VRel r c v → LRel r (cs.set n c) (vs.set n v)
  | [], vs, h, n, c, v, k => by simp [LRel] at h; subst h; simp [LRel]
  | d :: cs, vs, h, n, c, v, k => by
    simp only [LRel] at h
    obtain ⟨u, us, rfl, h1, h2⟩ := h
    cases n with
    | zero => simp only [List.set_cons_zero, LRel]; exact ⟨v, us, rfl, k, h2⟩
    | succ n => simp only [List.set_cons_succ, LRel]; exact ⟨u, _, rfl, h1, h2.set n k⟩

theorem LRel.map {r : Res} {α : Type} (f : α → AV) (g : α → Value) : ∀ (l : List α), (∀ x ∈ l, VRel r (f x) (g x)) → LRel r (l.map f) (l.map g)
  | [], _ => by simp [LRel]
  | x :: l, h => by
    simp only [List.map_cons, LRel]
    exact ⟨_, _, rfl, h x (by simp), LRel.map f g l fun y hy => h y (by simp [hy])⟩

theorem LRel.enc {r : Res} : ∀ {t : Ty} {x : t.den} {vs : List Value}, TRel r.H t x vs → LRel r (t.enc x) vs
  | .int k, x, vs, h => by simp only [TRel] at h; subst h; simp [Ty.enc, LRel, VRel]
  | .bool, x, vs, h => by simp only [TRel] at h; subst h; simp [Ty.enc, LRel, VRel]
  | .str, x, vs, h => by simp only [TRel] at h; subst h; simp [Ty.enc, LRel, VRel]
  | .flt, x, vs, h => by simp only [TRel] at h; obtain ⟨v, rfl, h⟩ := h; simp only [Ty.enc, LRel, VRel]; exact ⟨v, [], rfl, h, rfl⟩
  | .unit, x, vs, h => by simp only [TRel] at h; subst h; simp [Ty.enc, LRel]
  | .pair a b, x, vs, h => by
    simp only [TRel] at h
    obtain ⟨us, ws, rfl, h1, h2⟩ := h
    exact (LRel.enc h1).append (LRel.enc h2)
  | .st a, x, vs, h => LRel.enc (t := a) h
  | .sl a, xs, vs, h => by
    simp only [TRel] at h
    obtain ⟨p, c, rfl, hl, he⟩ := h
    simp only [Ty.enc, LRel, VRel]
    exact ⟨_, [], rfl, ⟨p, c, rfl, hl, he⟩, rfl⟩
  | .ptr a, x, vs, h => by
    simp only [TRel] at h
    obtain ⟨p, us, rfl, h1, h2⟩ := h
    simp only [Ty.enc, LRel, VRel]
    exact ⟨_, [], rfl, ⟨p, us, rfl, LRel.enc h1, h2⟩, rfl⟩
  | .clo f c, x, vs, h => by
    simp only [TRel] at h
    obtain ⟨us, rfl, h1⟩ := h
    simp only [Ty.enc, LRel, VRel]
    exact ⟨_, [], rfl, ⟨[], us, by simp, by simp, LRel.enc h1⟩, rfl⟩
  | .er tf te, x, vs, h => by simp only [TRel] at h; subst h; simp [Ty.enc, LRel, VRel]
  | .ifi t k, x, vs, h => by simp only [TRel] at h; subst h; simp [Ty.enc, LRel, VRel]

theorem TRel.length {H : Addr → Option Value} : ∀ {t : Ty} {x : t.den} {vs : List Value}, TRel H t x vs → vs.length = t.sz
  | .int k, x, vs, h => by simp only [TRel] at h; subst h; rfl
  | .bool, x, vs, h => by simp only [TRel] at h; subst h; rfl
  | .str, x, vs, h => by simp only [TRel] at h; subst h; rfl
  | .flt, x, vs, h => by simp only [TRel] at h; obtain ⟨v, rfl, h⟩ := h; rfl
  | .unit, x, vs, h => by simp only [TRel] at h; subst h; rfl
  | .pair a b, x, vs, h => by
    simp only [TRel] at h
    obtain ⟨us, ws, rfl, h1, h2⟩ := h
    simp [Ty.sz, h1.length, h2.length]
  | .st a, x, vs, h => TRel.length (t := a) h
  | .sl a, xs, vs, h => by simp only [TRel] at h; obtain ⟨p, c, rfl, _⟩ := h; rfl
  | .ptr a, x, vs, h => by simp only [TRel] at h; obtain ⟨p, us, rfl, _⟩ := h; rfl
  | .clo f c, x, vs, h => by simp only [TRel] at h; obtain ⟨us, rfl, _⟩ := h; rfl
  | .er tf te, x, vs, h => by simp only [TRel] at h; subst h; rfl
  | .ifi t k, x, vs, h => by simp only [TRel] at h; subst h; rfl

theorem CellsAt.left {H : Addr → Option Value} {p : Addr} {us ws : List Value} (h : CellsAt H p (us ++ ws)) : CellsAt H p us := fun j u e => by
  refine h j u ?_
  have : j < us.length := (List.getElem?_eq_some_iff.1 e).1
  rw [List.getElem?_append_left this]; exact e

theorem errOf_sound {r : Res} {tf te : Nat} : ∀ {n : Nat} {v : AV} {x : ErrD} {u : Value}, errOf tf te n v = some x → VRel r v u → u = errVal tf te x
  | 0, _, _, _, h, _ => by simp [errOf] at h
  | n + 1, v, x, u, h, hv => by
    unfold errOf at h
    split at h
    · cases h; simpa only [VRel, errVal] using hv
    · split at h
      · rename_i hh; cases h; obtain ⟨rfl, rfl⟩ := hh; simpa only [VRel] using hv
      · cases h
    · split at h
      · rename_i hh; cases h; subst hh; simp only [VRel] at hv; obtain ⟨u', rfl, rfl⟩ := hv; rfl
      · cases h
    · split at h
      · rename_i hh; subst hh
        split at h
        · rename_i y hy
          cases h
          simp only [VRel, LRel] at hv
          obtain ⟨u1, rfl, vs, rfl, x1, y1, rfl, rfl, x2, y2, rfl, rfl, x3, y3, rfl, h3, rfl⟩ := hv
          rw [errOf_sound hy h3]; rfl
        · cases h
      · cases h
    · cases h

theorem dec_sound {r : Res} : ∀ (t : Ty) {l : List AV} {vs : List Value} {x : t.den} {l' : List AV}, LRel r l vs → t.dec l = some (x, l') →
    ∃ us ws, vs = us ++ ws ∧ TRel r.H t x us ∧ LRel r l' ws
  | .int k, l, vs, x, l', h, e => by
    cases l with
    | nil => simp [Ty.dec] at e
    | cons c l =>
      cases c <;> simp only [Ty.dec, reduceCtorEq] at e
      split at e
      · rename_i k' n hk
        simp only [Option.some.injEq] at e
        obtain ⟨rfl, rfl⟩ := e
        subst hk
        simp only [LRel, VRel] at h
        obtain ⟨v, ws, rfl, rfl, h⟩ := h
        exact ⟨[_], ws, rfl, rfl, h⟩
      · simp at e
  | .bool, l, vs, x, l', h, e => by
    cases l with
    | nil => simp [Ty.dec] at e
    | cons c l =>
      cases c <;> simp only [Ty.dec, reduceCtorEq, Option.some.injEq] at e <;>
        (obtain ⟨rfl, rfl⟩ := e; simp only [LRel, VRel] at h; obtain ⟨v, ws, rfl, rfl, h⟩ := h; exact ⟨[_], ws, rfl, rfl, h⟩)
  | .str, l, vs, x, l', h, e => by
    cases l with
    | nil => simp [Ty.dec] at e
    | cons c l =>
      cases c <;> simp only [Ty.dec, reduceCtorEq, Option.some.injEq] at e
      obtain ⟨rfl, rfl⟩ := e; simp only [LRel, VRel] at h; obtain ⟨v, ws, rfl, rfl, h⟩ := h; exact ⟨[_], ws, rfl, rfl, h⟩
  | .flt, l, vs, x, l', h, e => by
    cases l with
    | nil => simp [Ty.dec] at e
    | cons c l =>
      cases c <;> simp only [Ty.dec, reduceCtorEq, Option.some.injEq] at e
      obtain ⟨rfl, rfl⟩ := e; simp only [LRel, VRel] at h; obtain ⟨v, ws, rfl, h0, h⟩ := h; exact ⟨[_], ws, rfl, ⟨_, rfl, h0⟩, h⟩
  | .unit, l, vs, x, l', h, e => by
    simp only [Ty.dec, Option.some.injEq] at e
    obtain ⟨rfl, rfl⟩ := e
    exact ⟨[], vs, rfl, rfl, h⟩
  | .pair a b, l, vs, x, l', h, e => by
    simp only [Ty.dec] at e
    split at e
    · rename_i x1 l1 e1
      split at e
      · rename_i x2 l2 e2
        simp only [Option.some.injEq] at e
        obtain ⟨rfl, rfl⟩ := e
        obtain ⟨us, ws, rfl, h1, h2⟩ := dec_sound a h e1
        obtain ⟨us', ws', rfl, h3, h4⟩ := dec_sound b h2 e2
        exact ⟨us ++ us', ws', by simp, ⟨us, us', rfl, h1, h3⟩, h4⟩
      · simp at e
    · simp at e
  | .st a, l, vs, x, l', h, e => dec_sound a h e
  | .sl a, l, vs, x, l', h, e => by
    cases l with
    | nil => simp [Ty.dec] at e
    | cons c l =>
      cases c <;> simp only [Ty.dec, reduceCtorEq] at e
      · split at e
        · rename_i a' xs ha
          subst ha
          simp only [Option.some.injEq] at e
          obtain ⟨rfl, rfl⟩ := e
          simp only [LRel, VRel] at h
          obtain ⟨v, ws, rfl, ⟨p, c, rfl, hl, he⟩, h⟩ := h
          exact ⟨[_], ws, rfl, ⟨p, c, rfl, hl, he⟩, h⟩
        · simp at e
      · split at e
        · rename_i a' xs ha
          subst ha
          simp only [Option.some.injEq] at e
          obtain ⟨rfl, rfl⟩ := e
          simp only [LRel, VRel] at h
          obtain ⟨v, ws, rfl, ⟨p, rfl, he⟩, h⟩ := h
          exact ⟨[_], ws, rfl, ⟨p, _, rfl, Nat.le_refl _, he⟩, h⟩
        · simp at e
      · simp only [Option.some.injEq] at e
        obtain ⟨rfl, rfl⟩ := e
        simp only [LRel, VRel] at h
        obtain ⟨v, ws, rfl, rfl, h⟩ := h
        exact ⟨[_], ws, rfl, ⟨none, 0, rfl, Nat.le_refl _, fun hn => absurd rfl hn⟩, h⟩
  | .ptr a, l, vs, x, l', h, e => by
    cases l with
    | nil => simp [Ty.dec] at e
    | cons c l =>
      cases c <;> simp only [Ty.dec, reduceCtorEq] at e
      split at e
      · rename_i x1 l1 e1
        simp only [Option.some.injEq] at e
        obtain ⟨rfl, rfl⟩ := e
        simp only [LRel, VRel] at h
        obtain ⟨v, ws, rfl, ⟨p, us, rfl, h1, h2⟩, h⟩ := h
        obtain ⟨us1, us2, rfl, h3, h4⟩ := dec_sound a h1 e1
        exact ⟨[_], ws, rfl, ⟨p, us1, rfl, h3, h2.left⟩, h⟩
      · simp at e
  | .clo f c, l, vs, x, l', h, e => by
    cases l with
    | nil => simp [Ty.dec] at e
    | cons d l =>
      cases d with
      | clo f' fs cs =>
        cases fs with
        | cons _ _ => simp [Ty.dec] at e
        | nil =>
          simp only [Ty.dec] at e
          split at e
          · rename_i hf
            subst hf
            split at e
            · rename_i x1 e1
              simp only [Option.some.injEq] at e
              obtain ⟨rfl, rfl⟩ := e
              simp only [LRel, VRel] at h
              obtain ⟨v, ws, rfl, ⟨us, ws1, rfl, h1, h2⟩, h⟩ := h
              obtain ⟨us1, us2, rfl, h3, h4⟩ := dec_sound c h2 e1
              simp only [LRel] at h4
              subst h4 h1
              exact ⟨[_], ws, rfl, ⟨us1, by simp, h3⟩, h⟩
            · simp at e
          · simp at e
      | _ => simp [Ty.dec] at e
  | .er tf te, l, vs, x, l', h, e => by
    cases l with
    | nil => simp [Ty.dec] at e
    | cons c l =>
      simp only [Ty.dec] at e
      split at e
      · rename_i y hy
        simp only [Option.some.injEq] at e
        obtain ⟨rfl, rfl⟩ := e
        simp only [LRel] at h
        obtain ⟨v, ws, rfl, h0, h⟩ := h
        exact ⟨[_], ws, rfl, by simp only [TRel]; rw [errOf_sound hy h0], h⟩
      · simp at e
  | .ifi t k, l, vs, x, l', h, e => by
    cases l with
    | nil => simp [Ty.dec] at e
    | cons c l =>
      cases c with
      | ifc t' w =>
        cases w with
        | it k' n =>
          simp only [Ty.dec] at e
          split at e
          · rename_i hk
            simp only [Option.some.injEq] at e
            obtain ⟨rfl, rfl⟩ := e
            obtain ⟨rfl, rfl⟩ := hk
            simp only [LRel, VRel] at h
            obtain ⟨v, ws, rfl, ⟨u, rfl, rfl⟩, h⟩ := h
            exact ⟨[_], ws, rfl, rfl, h⟩
          · simp at e
        | _ => simp [Ty.dec] at e
      | _ => simp [Ty.dec] at e

end Go.Proofs.Pen

namespace Go.Proofs.Pen
open Go

structure OutLe (w w' : World) : Prop where
  out : w'.output = w.output
  drawn : w.drawn ≤ w'.drawn
theorem OutLe.refl (w : World) : OutLe w w := ⟨rfl, Nat.le_refl _⟩
theorem OutLe.trans {a b c : World} (k : OutLe b c) (h : OutLe a b) : OutLe a c := ⟨k.out.trans h.out, Nat.le_trans h.drawn k.drawn⟩

structure Same (w w' : World) : Prop where
  heap : w'.heap = w.heap
  os : w'.os = w.os
  tape : w'.tape = w.tape
  output : OutLe w w'
theorem Same.refl (w : World) : Same w w := ⟨rfl, rfl, rfl, .refl w⟩

structure Below (B : Nat) (w w' : World) : Prop where
  os : w'.os = w.os
  tape : w'.tape = w.tape
  output : OutLe w w'
  size : w.heap.size ≤ w'.heap.size
  block : ∀ k, k < B → w'.heap[k]? = w.heap[k]?
theorem Below.refl (B : Nat) (w : World) : Below B w w := ⟨rfl, rfl, .refl w, Nat.le_refl _, fun _ _ => rfl⟩
theorem Below.trans {B : Nat} {a b c : World} (h : Below B a b) (k : Below B b c) : Below B a c :=
  ⟨k.os.trans h.os, k.tape.trans h.tape, k.output.trans h.output, Nat.le_trans h.size k.size, fun i hi => (k.block i hi).trans (h.block i hi)⟩
theorem Below.kit {B : Nat} {w w' : World} (h : Below B w w') : RowKit.Below B w w' := ⟨h.os, h.tape, h.output.out, h.size, h.block⟩
theorem Same.trans {a b c : World} (h : Same a b) (k : Same b c) : Same a c := ⟨k.heap.trans h.heap, k.os.trans h.os, k.tape.trans h.tape, k.output.trans h.output⟩

def Gives (P : Program) (s : Sem Value) (w : World) (R : Value → Prop) : Prop := ∃ u w', s.run P w = .ok u w' ∧ Same w w' ∧ R u

theorem Gives.of {P : Program} {s : Sem Value} {w : World} {R : Value → Prop} {u : Value} (h : s.run P w = .ok u w) (hR : R u) : Gives P s w R := ⟨u, w, h, .refl w, hR⟩

theorem run_optT {α : Type} {o : Option α} {a : α} (h : (optT o).run = some a) : o = some a := by
  cases o with
  | none => simp [optT, T.run] at h
  | some x => simpa [optT, T.run] using h

theorem run_bind {α β : Type} : ∀ {t : T α} {f : α → T β} {b : β}, (t.bind f).run = some b → ∃ a, t.run = some a ∧ (f a).run = some b
  | .ret a, f, b, h => ⟨a, rfl, h⟩
  | .ite c x y, f, b, h => by
    simp only [T.bind, T.run] at h ⊢
    split at h
    · rename_i hc; obtain ⟨a, k1, k2⟩ := run_bind h; exact ⟨a, by simpa [hc] using k1, k2⟩
    · rename_i hc; obtain ⟨a, k1, k2⟩ := run_bind h; exact ⟨a, by simpa [hc] using k1, k2⟩
  | .opt o k, f, b, h => by
    simp only [T.bind, T.run] at h ⊢
    cases o with
    | none => simp at h
    | some r => simp only [Option.bind_some] at h ⊢; exact run_bind h
  | .fail, f, b, h => by simp [T.bind, T.run] at h

theorem run_ite {α : Type} {b : Bool} {x y : T α} {r : α} (h : (T.ite b x y).run = some r) : (b = true ∧ x.run = some r) ∨ (b = false ∧ y.run = some r) := by
  simp only [T.run] at h
  cases b with
  | true => exact .inl ⟨rfl, by simpa using h⟩
  | false => exact .inr ⟨rfl, by simpa using h⟩

theorem run_ifT {α : Type} {c b : Bool} {x y : T α} {r : α} (h : (ifT c b x y).run = some r) : (b = true ∧ x.run = some r) ∨ (b = false ∧ y.run = some r) := by
  cases c with
  | false => exact run_ite h
  | true =>
    cases b with
    | true => exact .inl ⟨rfl, h⟩
    | false => exact .inr ⟨rfl, h⟩

theorem run_opt {α ρ : Type} {o : Option ρ} {k : ρ → T α} {r : α} (h : (T.opt o k).run = some r) : ∃ x, o = some x ∧ (k x).run = some r := by
  cases o with
  | none => simp [T.run] at h
  | some x => exact ⟨x, rfl, by simpa [T.run] using h⟩

theorem run_ret {α : Type} {a r : α} (h : (T.ret a).run = some r) : a = r := by simpa [T.run] using h
theorem run_fail {α : Type} {r : α} (h : (T.fail : T α).run = some r) : False := by simp [T.run] at h

theorem force_run {α : Type} {t : T α} {v : α} (h : t.force.run = some v) : t.run = some v := by
  induction t with
  | ret a => exact h
  | ite b x y ih1 ih2 =>
    cases b
    · exact ih2 h
    · exact ih1 h
  | opt o k ih =>
    cases o with
    | none => exact (run_fail h).elim
    | some a => exact ih a h
  | fail => exact (run_fail h).elim

theorem nan_sum_left {x y : Ieee.Datum} (h : x.isNaN = true) : x.sum y = none := by
  cases x <;> simp [Ieee.Datum.isNaN] at h
  cases y <;> rfl
theorem nan_sum_right {x y : Ieee.Datum} (h : y.isNaN = true) : x.sum y = none := by
  cases y <;> simp [Ieee.Datum.isNaN] at h
  cases x <;> rfl
theorem nan_product_left {x y : Ieee.Datum} (h : x.isNaN = true) : x.product y = none := by
  cases x <;> simp [Ieee.Datum.isNaN] at h
  cases y <;> rfl
theorem nan_product_right {x y : Ieee.Datum} (h : y.isNaN = true) : x.product y = none := by
  cases y <;> simp [Ieee.Datum.isNaN] at h
  cases x <;> rfl
theorem nan_quotient_left {n : Nat} {x y : Ieee.Datum} (h : x.isNaN = true) : x.quotient n y = none := by
  cases x <;> simp [Ieee.Datum.isNaN] at h
  cases y <;> rfl
theorem nan_quotient_right {n : Nat} {x y : Ieee.Datum} (h : y.isNaN = true) : x.quotient n y = none := by
  cases y <;> simp [Ieee.Datum.isNaN] at h
  cases x <;> rfl
theorem nan_order_left {x y : Ieee.Datum} (h : x.isNaN = true) : x.order y = none := by
  cases x <;> simp [Ieee.Datum.isNaN] at h
  cases y <;> rfl
theorem nan_order_right {x y : Ieee.Datum} (h : y.isNaN = true) : x.order y = none := by
  cases y <;> simp [Ieee.Datum.isNaN] at h
  cases x <;> rfl
theorem nan_opposite {x : Ieee.Datum} (h : x.isNaN = true) : x.opposite.isNaN = true := by
  cases x <;> simp [Ieee.Datum.isNaN] at h
  rfl

theorem FRel.ofBits {o : Option Nat} {v : Value} (h : FRel o v) : ∃ x, v = .float .f64 x ∧ (o = some x ∨ (o = none ∧ NaN64 x)) := by
  cases o with
  | some x => exact ⟨x, h, .inl rfl⟩
  | none => obtain ⟨x, e, n⟩ := h; exact ⟨x, e, .inr ⟨rfl, n⟩⟩

theorem read_nan {f : Ieee.Format} {x : Nat} (hb : f.binade ≤ f.infRung) (h : f.infRung < x % f.signWeight) : (f.read x).isNaN = true := by
  unfold Ieee.Format.read
  dsimp only
  rw [if_neg (by omega), if_neg (by omega), if_neg (by omega)]
  rfl

theorem nan_drawn (t : Nat) : NaN64 ((t % 2) * 2 ^ 63 + 0x7ff0000000000000 + 1 + (t / 2) % (2 ^ 52 - 1)) := by
  have h1 : t % 2 < 2 := Nat.mod_lt _ (by decide)
  have h2 : (t / 2) % (2 ^ 52 - 1) < 2 ^ 52 - 1 := Nat.mod_lt _ (by decide)
  generalize t % 2 = s at h1 ⊢
  generalize (t / 2) % (2 ^ 52 - 1) = q at h2 ⊢
  have e1 : FloatKind.f64.format.signWeight = 9223372036854775808 := by decide
  have e3 : FloatKind.f64.format.infRung = 9218868437227405312 := by decide
  refine read_nan (by decide) ?_
  rw [e1, e3]
  omega

theorem run_choose {P : Program} {q : Question} {w : World} (h : q.forced = false) : (choose q).run P w = .ok (q.cut (w.tape w.drawn q)) w.drew := by
  show (if q.forced = true then _ else _) = _
  rw [h]
  rfl

theorem Same.drew (w : World) : Same w w.drew := ⟨rfl, rfl, rfl, rfl, Nat.le_succ _⟩

def isArith (op : BinOp) : Prop := op = .add ∨ op = .sub ∨ op = .mul ∨ op = .quo

theorem arith_gives {op : BinOp} {x y : Nat} (hop : isArith op) (P : Program) (w : World) : Gives P (Op.floatArith op .f64 x y) w (FRel (bop op x y)) := by
  have e : Op.floatArith op .f64 x y = (match bop op x y with | some r => pure (.float .f64 r) | none => do pure (.float .f64 (← choose (.nanBits .f64 x y)))) := by
    rcases hop with rfl | rfl | rfl | rfl <;> simp only [Op.floatArith, bop] <;> rfl
  rw [e]
  cases bop op x y with
  | some r => exact .of (u := .float .f64 r) (by simp) rfl
  | none =>
    refine ⟨.float .f64 (Question.cut (.nanBits .f64 x y) (w.tape w.drawn (.nanBits .f64 x y))), w.drew, ?_, .drew w, ⟨_, rfl, nan_drawn _⟩⟩
    simp only [Sem.run_bind, run_choose (P := P) (w := w) (q := .nanBits .f64 x y) rfl]
    simp

theorem fop_gives {op : BinOp} {a b : Option Nat} {x y : Value} (hop : isArith op) (P : Program) (w : World) (hx : FRel a x) (hy : FRel b y) (t : TypeId) :
    Gives P (binOp op t x y) w (FRel (fop op a b)) := by
  obtain ⟨x, rfl, hx'⟩ := hx.ofBits
  obtain ⟨y, rfl, hy'⟩ := hy.ofBits
  have hb : binOp op t (.float .f64 x) (.float .f64 y) = Op.floatArith op .f64 x y := by rcases hop with rfl | rfl | rfl | rfl <;> simp [binOp]
  rw [hb]
  have key : bop op x y = fop op a b := by
    rcases hx' with rfl | ⟨rfl, hx'⟩ <;> rcases hy' with rfl | ⟨rfl, hy'⟩ <;> rcases hop with rfl | rfl | rfl | rfl <;>
      simp [fop, bop, Ieee.Format.add, Ieee.Format.sub, Ieee.Format.mul, Ieee.Format.div] <;>
      first
        | exact nan_sum_right hy' | exact nan_sum_right (nan_opposite hy') | exact nan_product_right hy' | exact nan_quotient_right hy'
        | exact nan_sum_left hx' | exact nan_product_left hx' | exact nan_quotient_left hx'
  rw [← key]
  exact arith_gives hop P w

theorem ford_eq {a b : Option Nat} {x y : Nat} (hx : a = some x ∨ (a = none ∧ NaN64 x)) (hy : b = some y ∨ (b = none ∧ NaN64 y)) : FloatKind.f64.format.order x y = ford a b := by
  rcases hx with rfl | ⟨rfl, hx⟩ <;> rcases hy with rfl | ⟨rfl, hy⟩ <;> simp only [ford, Ieee.Format.order]
  · exact nan_order_right hy
  · exact nan_order_left hx
  · exact nan_order_left hx

theorem fcmp_gives {op : BinOp} {a b : Option Nat} {x y : Value} {c : Bool} (P : Program) (w : World) (hx : FRel a x) (hy : FRel b y) (t : TypeId) (h : fcmp op a b = some c) :
    (binOp op t x y).run P w = .ok (.bool c) w := by
  obtain ⟨x, rfl, hx'⟩ := hx.ofBits
  obtain ⟨y, rfl, hy'⟩ := hy.ofBits
  have e := ford_eq hx' hy'
  cases op <;> simp only [fcmp, reduceCtorEq, Option.some.injEq] at h <;> subst h <;> simp [binOp, Op.floatCmp, e]

end Go.Proofs.Pen

namespace Go.Proofs.Pen
open Go

theorem icmp_gives {op : BinOp} {k : IntKind} {a b : Int} {c : Bool} (P : Program) (w : World) (t : TypeId) (h : icmp op a b = some c) :
    (binOp op t (.int k a) (.int k b)).run P w = .ok (.bool c) w := by
  cases op <;> simp only [icmp, reduceCtorEq, Option.some.injEq] at h <;> subst h <;> simp [binOp, Op.intCmp]

theorem intBin_gives {op : BinOp} {k : IntKind} {a b : Int} {v : AV} (P : Program) (w : World) (r : Res) (t : TypeId) (h : intBin op k a b = some v) :
    ∃ u, (binOp op t (.int k a) (.int k b)).run P w = .ok u w ∧ VRel r v u := by
  have key : ∀ c, icmp op a b = some c → v = .bo c → ∃ u, (binOp op t (.int k a) (.int k b)).run P w = .ok u w ∧ VRel r v u := by
    intro c h e
    exact ⟨_, icmp_gives P w t h, by rw [e]; simp [VRel]⟩
  cases op <;> simp only [intBin] at h
  case add => cases h; exact ⟨.int k (k.wrap (a + b)), by simp [binOp, Op.intArith], by simp [VRel]⟩
  case sub => cases h; exact ⟨.int k (k.wrap (a - b)), by simp [binOp, Op.intArith], by simp [VRel]⟩
  case mul => cases h; exact ⟨.int k (k.wrap (a * b)), by simp [binOp, Op.intArith], by simp [VRel]⟩
  case and => cases h; exact ⟨.int k (k.wrap (BitVec.ofInt k.bits a &&& BitVec.ofInt k.bits b).toNat), by simp [binOp, Op.intBits], by simp [VRel]⟩
  case or => cases h; exact ⟨.int k (k.wrap (BitVec.ofInt k.bits a ||| BitVec.ofInt k.bits b).toNat), by simp [binOp, Op.intBits], by simp [VRel]⟩
  case xor => cases h; exact ⟨.int k (k.wrap (BitVec.ofInt k.bits a ^^^ BitVec.ofInt k.bits b).toNat), by simp [binOp, Op.intBits], by simp [VRel]⟩
  case andNot => cases h; exact ⟨.int k (k.wrap (BitVec.ofInt k.bits a &&& ~~~ BitVec.ofInt k.bits b).toNat), by simp [binOp, Op.intBits], by simp [VRel]⟩
  all_goals
    cases hc : icmp _ a b with
    | none => rw [hc] at h; simp at h
    | some c => rw [hc] at h; simp at h; exact key c hc h.symm

theorem scmp_gives {op : BinOp} {a b : ByteArray} {c : Bool} (P : Program) (w : World) (t : TypeId) (h : scmp op a b = some c) :
    (binOp op t (.string a) (.string b)).run P w = .ok (.bool c) w := by
  cases op <;> simp only [scmp, reduceCtorEq, Option.some.injEq] at h <;> subst h <;> simp [binOp, Op.stringOp]

theorem bool?_rel {r : Res} {x : AV} {b : Bool} {v : Value} (h : x.bool? = some b) (k : VRel r x v) : v = .bool b := by
  cases x <;> simp [AV.bool?] at h <;> simp only [VRel] at k <;> simp [k, h]

theorem run_underlying' {P : Program} {w : World} {t : TypeId} {d : TypeDesc} (h : P.underlying t = some d) : (underlying t).run P w = .ok d w := by
  simp [underlying, program, Sem.run, h]
theorem run_isAgg' {P : Program} {w : World} {t : TypeId} (h : (P.underlying t).isSome = true) : (isAgg t).run P w = .ok (isAggT P t) w := by
  unfold isAgg isAggT
  cases hd : P.underlying t with
  | none => simp [hd] at h
  | some d => simp only [Sem.run_bind, run_underlying' hd]; cases d <;> simp
theorem run_sizeOf' {P : Program} {w : World} {t : TypeId} {n : Nat} (h : szT P t = some n) : (sizeOf t).run P w = .ok n w := by
  unfold szT at h
  cases hi : P.info? t with
  | none => simp [hi] at h
  | some i => simp [hi] at h; simp [sizeOf, typeInfo, program, Sem.run, hi, h]
theorem run_part {P : Program} {w : World} {r : Res} {t : TypeId} {k off : Nat} {cs : List AV} {vs : List Value} (h : LRel r cs vs) (hk : szT P t = some k) (hu : (P.underlying t).isSome = true)
    (hoff : isAggT P t = true ∨ off < cs.length) : ∃ u, (part t vs.toArray off).run P w = .ok u w ∧ VRel r (partV P t cs off k) u := by
  unfold partV
  cases ha : isAggT P t with
  | true =>
    refine ⟨.agg ((vs.drop off).take k).toArray, ?_, ?_⟩
    · simp [part, run_isAgg' hu, ha, run_sizeOf' hk]
    · simp only [if_true, VRel]
      exact ⟨(vs.drop off).take k, rfl, (h.drop off).take k⟩
  | false =>
    rcases hoff with hoff | hoff
    · rw [ha] at hoff; cases hoff
    · obtain ⟨c, hc⟩ : ∃ c, cs[off]? = some c := ⟨_, List.getElem?_eq_getElem hoff⟩
      obtain ⟨v, hv, hr⟩ := h.get hc
      refine ⟨v, ?_, by simpa [List.getD_eq_getElem?_getD, hc] using hr⟩
      simp [part, run_isAgg' hu, ha, hv]

theorem loop_all {α : Type} {P : Program} {w : World} {step : α → Option Bool} {body : α → Option Bool × Unit → Sem (ForInStep (Option Bool × Unit))} : ∀ {l : List α} {c : Bool},
    allEq step l = some c → (∀ x ∈ l, ∀ a, step x = some a → (body x (none, ())).run P w = .ok (if a = true then .yield (none, ()) else .done (some false, ())) w) →
    (forIn l (none, ()) body).run P w = .ok (if c = true then (none, ()) else (some false, ())) w
  | [], c, h, _ => by simp [allEq] at h; subst h; simp
  | x :: l, c, h, hb => by
    have key : ∃ a b, step x = some a ∧ allEq step l = some b ∧ c = (a && b) := by
      cases l with
      | nil => exact ⟨c, true, by simpa [allEq] using h, rfl, by simp⟩
      | cons y l =>
        unfold allEq at h
        dsimp only at h
        split at h
        · rename_i a b h1 h2; simp at h; exact ⟨a, b, h1, h2, h.symm⟩
        · simp at h
    obtain ⟨a, b, h1, h2, rfl⟩ := key
    have hx := hb x (by simp) a h1
    rw [List.forIn_cons]
    cases a with
    | true =>
      have ih := loop_all (l := l) h2 fun y hy => hb y (by simp [hy])
      simp [hx, ih]
    | false => simp [hx]

theorem getD_rel {r : Res} {cs : List AV} {vs : List Value} (_h : LRel r cs vs) (i : Nat) : i < cs.length ∨ cs.getD i .junk = .junk := by
  rcases Nat.lt_or_ge i cs.length with h1 | h1
  · exact .inl h1
  · exact .inr (by simp [List.getD_eq_getElem?_getD, List.getElem?_eq_none h1])

theorem eqAV_junk (P : Program) (n : Nat) (t : TypeId) (y : AV) : eqAV P n t .junk y = none := by
  cases n with
  | zero => rfl
  | succ n => unfold eqAV; cases P.underlying t with
    | none => rfl
    | some d => cases d <;> cases y <;> rfl
theorem eqAV_junk' (P : Program) (n : Nat) (t : TypeId) (x : AV) : eqAV P n t x .junk = none := by
  cases n with
  | zero => rfl
  | succ n => unfold eqAV; cases P.underlying t with
    | none => rfl
    | some d => cases d <;> cases x <;> rfl

theorem eqAV_und {P : Program} {n : Nat} {t : TypeId} {x y : AV} {c : Bool} (h : eqAV P n t x y = some c) : (P.underlying t).isSome = true := by
  cases n with
  | zero => simp [eqAV] at h
  | succ n =>
    cases hd : P.underlying t with
    | none => unfold eqAV at h; rw [hd] at h; simp at h
    | some d => rfl

theorem eq_sound {P : Program} {w : World} {r : Res} : ∀ {n : Nat} {t : TypeId} {x y : AV} {c : Bool} {vx vy : Value} {d : Nat},
    eqAV P n t x y = some c → VRel r x vx → VRel r y vy → n ≤ d → (Op.equalIn d t vx vy).run P w = .ok c w := by
  intro n
  induction n with
  | zero => intro t x y c vx vy d h; simp [eqAV] at h
  | succ n ih =>
    intro t x y c vx vy d h hx hy hd
    obtain ⟨d, rfl⟩ : ∃ e, d = e + 1 := ⟨d - 1, by omega⟩
    have hd' : n ≤ d := by omega
    -- parts of aggregates
    have hpart : ∀ (e : TypeId) (k off : Nat) (cs ds : List AV) (vs us : List Value) (a : Bool), LRel r cs vs → LRel r ds us → szT P e = some k →
        eqAV P n e (partV P e cs off k) (partV P e ds off k) = some a →
        ∃ p q, (part e vs.toArray off).run P w = .ok p w ∧ (part e us.toArray off).run P w = .ok q w ∧ (Op.equalIn d e p q).run P w = .ok a w := by
      intro e k off cs ds vs us a h1 h2 hk he
      have hu := eqAV_und he
      have ho : ∀ {cs : List AV} {vs : List Value}, LRel r cs vs → partV P e cs off k ≠ .junk → isAggT P e = true ∨ off < cs.length := by
        intro cs vs hl hne
        cases ha : isAggT P e with
        | true => exact .inl rfl
        | false =>
          rcases getD_rel hl off with h0 | h0
          · exact .inr h0
          · exact absurd (by unfold partV; rw [ha]; simpa using h0) hne
      obtain ⟨p, hp, rp⟩ := run_part (w := w) h1 hk hu (ho h1 fun e1 => by rw [e1, eqAV_junk] at he; cases he)
      obtain ⟨q, hq, rq⟩ := run_part (w := w) h2 hk hu (ho h2 fun e1 => by rw [e1, eqAV_junk'] at he; cases he)
      exact ⟨p, q, hp, hq, ih he rp rq hd'⟩
    unfold eqAV at h
    split at h
    · -- bool
      rename_i hu
      split at h
      · rename_i a b ha hb
        simp only [Option.some.injEq] at h; subst h
        rw [bool?_rel ha hx, bool?_rel hb hy]
        simp [Op.equalIn, run_underlying' hu]
      · simp at h
    · rename_i hu
      split at h
      · rename_i hk; subst hk
        simp only [Option.some.injEq] at h; subst h
        simp only [VRel] at hx hy; subst hx hy
        simp [Op.equalIn, run_underlying' hu]
      · simp at h
    · rename_i hu
      simp only [Option.some.injEq] at h; subst h
      simp only [VRel] at hx hy
      obtain ⟨a, rfl, hx'⟩ := hx.ofBits
      obtain ⟨b, rfl, hy'⟩ := hy.ofBits
      simp [Op.equalIn, run_underlying' hu, Op.floatEq, ford_eq hx' hy']
    · rename_i hu
      simp only [Option.some.injEq] at h; subst h
      simp only [VRel] at hx hy; subst hx hy
      simp [Op.equalIn, run_underlying' hu]
    · rename_i hu
      simp only [Option.some.injEq] at h; subst h
      simp only [VRel] at hx hy; subst hx hy
      simp [Op.equalIn, run_underlying' hu]
    · rename_i hu
      simp only [Option.some.injEq] at h; subst h
      simp only [VRel] at hx hy; obtain ⟨p, us, rfl, _⟩ := hy; subst hx
      simp [Op.equalIn, run_underlying' hu]
    · rename_i hu
      simp only [Option.some.injEq] at h; subst h
      simp only [VRel] at hx hy; obtain ⟨p, us, rfl, _⟩ := hx; subst hy
      simp [Op.equalIn, run_underlying' hu]
    · rename_i hu
      simp only [Option.some.injEq] at h; subst h
      simp only [VRel] at hx hy; obtain ⟨p, us, _, rfl⟩ := hy; subst hx
      simp [Op.equalIn, run_underlying' hu]
    · rename_i hu
      simp only [Option.some.injEq] at h; subst h
      simp only [VRel] at hx hy; obtain ⟨p, us, _, rfl⟩ := hx; subst hy
      simp [Op.equalIn, run_underlying' hu]
    · rename_i hu
      simp only [Option.some.injEq] at h; subst h
      simp only [VRel] at hx hy; obtain ⟨u, rfl, _⟩ := hy; subst hx
      simp [Op.equalIn, run_underlying' hu]
    · rename_i hu
      simp only [Option.some.injEq] at h; subst h
      simp only [VRel] at hx hy; obtain ⟨u, rfl, _⟩ := hx; subst hy
      simp [Op.equalIn, run_underlying' hu]
    · rename_i ta va tb vb hu
      simp only [VRel] at hx hy
      obtain ⟨ua, rfl, hxa⟩ := hx
      obtain ⟨ub, rfl, hyb⟩ := hy
      split at h
      · rename_i ht
        subst ht
        split at h
        · rename_i hc
          have he := ih h hxa hyb hd'
          unfold cmpT at hc
          cases hi : P.info? ta with
          | none => rw [hi] at hc; simp at hc
          | some i =>
            rw [hi] at hc
            have hc : i.comparable = true := by simpa using hc
            simp [Op.equalIn, run_underlying' hu, typeInfo, program, Sem.run, hi, hc]
            exact he
        · simp at h
      · rename_i ht
        simp only [Option.some.injEq] at h; subst h
        simp [Op.equalIn, run_underlying' hu, ht]
    · rename_i hu
      simp only [Option.some.injEq] at h; subst h
      simp only [VRel] at hx hy; subst hx hy
      simp [Op.equalIn, run_underlying' hu]
    · rename_i hu
      simp only [Option.some.injEq] at h; subst h
      simp only [VRel] at hx hy; obtain ⟨u, us, rfl, _⟩ := hy; subst hx
      simp [Op.equalIn, run_underlying' hu]
    · rename_i hu
      simp only [Option.some.injEq] at h; subst h
      simp only [VRel] at hx hy; obtain ⟨u, us, rfl, _⟩ := hx; subst hy
      simp [Op.equalIn, run_underlying' hu]
    · rename_i fs xs ys hu
      split at h
      · simp at h
      · rename_i hs
        simp only [VRel] at hx hy
        obtain ⟨vs, rfl, hx⟩ := hx
        obtain ⟨us, rfl, hy⟩ := hy
        simp only [Bool.not_eq_true] at hs
        have hl := loop_all (P := P) (w := w) (body := fun (f : Field) (_ : Option Bool × Unit) => if f.name = "_" then pure (ForInStep.yield (none, ())) else do
              let a ← part f.type vs.toArray f.offset
              let b ← part f.type us.toArray f.offset
              let z ← Op.equalIn d f.type a b
              if z = false then pure (ForInStep.done (some false, ())) else pure (ForInStep.yield (none, ()))) h (by
          intro f _ a ha
          try dsimp only at ha ⊢
          by_cases hn : f.name = "_"
          · simp only [hn, if_true, Option.some.injEq] at ha ⊢; subst ha; simp
          · simp only [hn, if_false] at ha ⊢
            split at ha
            · simp at ha
            · rename_i k hk
              obtain ⟨p, q, e1, e2, e3⟩ := hpart _ _ _ _ _ _ _ _ hx hy hk ha
              cases a <;> simp [e1, e2, e3])
        simp only [Op.equalIn, Sem.run_bind, run_underlying' hu]
        simp [program, Sem.run, hs]
        rw [← Array.forIn_toList, hl]
        cases c <;> simp
    · rename_i k e xs ys hu
      split at h
      · simp at h
      · rename_i s hs
        simp only [VRel] at hx hy
        obtain ⟨vs, rfl, hx⟩ := hx
        obtain ⟨us, rfl, hy⟩ := hy
        have hl := loop_all (P := P) (w := w) (body := fun (i : Nat) (_ : Option Bool × Unit) => do
              let a ← part e vs.toArray (i * s)
              let b ← part e us.toArray (i * s)
              let z ← Op.equalIn d e a b
              if z = false then pure (ForInStep.done (some false, ())) else pure (ForInStep.yield (none, ()))) h (by
          intro i _ a ha
          try dsimp only at ha ⊢
          obtain ⟨p, q, e1, e2, e3⟩ := hpart _ _ _ _ _ _ _ _ hx hy hs ha
          cases a <;> simp [e1, e2, e3])
        simp [Op.equalIn, run_underlying' hu, run_sizeOf' hs]
        rw [hl]
        cases c <;> simp
    · simp at h

end Go.Proofs.Pen

namespace Go.Proofs.Pen
open Go

theorem Gives.seq {P : Program} {s : Sem Unit} {k : Sem Value} {w : World} {R : Value → Prop} (h : s.run P w = .ok () w) (hk : Gives P k w R) : Gives P (do s; k) w R := by
  obtain ⟨u, w', e, hs, hR⟩ := hk
  exact ⟨u, w', by simp [h, e], hs, hR⟩

theorem VRel.it (r : Res) (k : IntKind) (n : Int) : VRel r (.it k n) (.int k n) := by simp only [VRel]
theorem VRel.bo (r : Res) (b : Bool) : VRel r (.bo b) (.bool b) := by simp only [VRel]
theorem VRel.sr (r : Res) (s : ByteArray) : VRel r (.sr s) (.string s) := by simp only [VRel]

theorem eqGuard_other {P : Program} {w : World} {op : BinOp} {t : TypeId} {ox oy : Operand} {a b : Value} (hop : isEq op = false) : (eqGuard op t ox oy a b).run P w = .ok () w := by
  cases op <;> simp [isEq] at hop <;> simp [eqGuard]

theorem eqGuard_free {P : Program} {w : World} {op : BinOp} {t : TypeId} {ox oy : Operand} {a b : Value} (h : P.eqGuardType P.depth t = false) (ha : a ≠ .nilIface) :
    (eqGuard op t ox oy a b).run P w = .ok () w := by
  cases hop : isEq op with
  | false => exact eqGuard_other hop
  | true =>
    cases op <;> simp [isEq] at hop <;> (cases a <;> first | exact absurd rfl ha | (cases b <;> simp [eqGuard, program, Sem.run, h]))

theorem isConst_some {o : Operand} (h : isConst o = true) : ∃ c, o = .const c := by cases o <;> simp [isConst] at h; exact ⟨_, rfl⟩

structure NoNum (v : Value) : Prop where
  nil : v ≠ .nilIface
  int : ∀ k a, v ≠ .int k a
  float : ∀ k a, v ≠ .float k a
  string : ∀ s, v ≠ .string s
  complex : ∀ k a b, v ≠ .complex k a b

theorem no_num {r : Res} {x : AV} {v : Value} (h : VRel r x v) (hn : plainAV x = true) : NoNum v := by
  cases x <;> simp only [VRel] at h <;> simp only [plainAV, reduceCtorEq] at hn
  case undef => subst h; constructor <;> simp [Go.undef]
  case tt => subst h; constructor <;> simp
  case ff => subst h; constructor <;> simp
  case bo => subst h; constructor <;> simp
  case agg => obtain ⟨vs, rfl, _⟩ := h; constructor <;> simp
  case tup => obtain ⟨vs, rfl, _⟩ := h; constructor <;> simp
  case sl => obtain ⟨p, c, rfl, _⟩ := h; constructor <;> simp
  case slx => obtain ⟨p, rfl, _⟩ := h; constructor <;> simp
  case osl => obtain ⟨p, c, rfl, _⟩ := h; constructor <;> simp
  case ref => obtain ⟨p, c, _, rfl⟩ := h; constructor <;> simp
  case rel => obtain ⟨p, c, _, rfl⟩ := h; constructor <;> simp
  case ptr => obtain ⟨p, c, rfl, _⟩ := h; constructor <;> simp
  case nilp => subst h; constructor <;> simp
  case nilf => subst h; constructor <;> simp
  case nilsl => subst h; constructor <;> simp
  case clo => obtain ⟨p, c, rfl, _⟩ := h; constructor <;> simp
  case ifc => obtain ⟨p, rfl, _⟩ := h; constructor <;> simp
  case nsl => obtain ⟨_, p, n, c, rfl, _⟩ := h; constructor <;> simp
  case mpr => obtain ⟨p, c, _, rfl⟩ := h; constructor <;> simp

theorem equal_nil {P : Program} {w : World} {t : TypeId} {ms : Array (String × TypeId)} (hu : P.underlying t = some (.interface ms)) :
    (Op.equal t .nilIface .nilIface).run P w = .ok true w ∧ (∀ d u, (Op.equal t .nilIface (.iface d u)).run P w = .ok false w) ∧ (∀ d u, (Op.equal t (.iface d u) .nilIface).run P w = .ok false w) := by
  have h : ∀ n, (Op.equalIn (n + 1) t .nilIface .nilIface).run P w = .ok true w ∧ (∀ d u, (Op.equalIn (n + 1) t .nilIface (.iface d u)).run P w = .ok false w) ∧ (∀ d u, (Op.equalIn (n + 1) t (.iface d u) .nilIface).run P w = .ok false w) :=
    fun n => ⟨by simp [Op.equalIn, run_underlying' hu], fun d u => by simp [Op.equalIn, run_underlying' hu], fun d u => by simp [Op.equalIn, run_underlying' hu]⟩
  exact h 9999

theorem eqAV_ifc_ne {P : Program} {n : Nat} {t : TypeId} {ms : Array (String × TypeId)} (hu : P.underlying t = some (.interface ms)) {a b : Nat} {x y : AV} (h : ¬ a = b) : eqAV P (n + 1) t (.ifc a x) (.ifc b y) = some false := by
  unfold eqAV
  rw [hu]
  simp [h]
theorem eqAV_ifc_int {P : Program} {n : Nat} {t : TypeId} {ms : Array (String × TypeId)} (hu : P.underlying t = some (.interface ms)) {b : Nat} {x y : Int} (hc : cmpT P b = true) (hb : P.underlying b = some (.int .i64)) :
    eqAV P (n + 2) t (.ifc b (.it .i64 x)) (.ifc b (.it .i64 y)) = some (x == y) := by
  unfold eqAV
  rw [hu]
  simp only [if_true, hc]
  unfold eqAV
  rw [hb]
  simp

theorem eqT_sound {P : Program} {w : World} {r : Res} {t : TypeId} {ox oy : Operand} {x y : AV} {vx vy : Value} {c : Bool} (h : eqT P t ox oy x y = some c) (hx : VRel r x vx) (hy : VRel r y vy) (op : BinOp) :
    (eqGuard op t ox oy vx vy).run P w = .ok () w ∧ (Op.equal t vx vy).run P w = .ok c w := by
  unfold eqT at h
  split at h
  · rename_i hg
    split at h
    · rename_i hu
      simp only [VRel] at hx hy
      subst hx hy
      split at h
      · rename_i hc
        simp only [Option.some.injEq] at h; subst h
        refine ⟨?_, (equal_nil hu).1⟩
        simp only [Bool.or_eq_true] at hc
        rcases hc with hc | hc
        · obtain ⟨c, rfl⟩ := isConst_some hc; cases op <;> simp [eqGuard]
        · obtain ⟨c, rfl⟩ := isConst_some hc; cases op <;> cases ox <;> simp [eqGuard]
      · simp at h
    · rename_i hu
      simp only [VRel] at hx hy
      obtain ⟨u, rfl, _⟩ := hy; subst hx
      simp only [Option.some.injEq] at h; subst h
      exact ⟨by cases op <;> simp [eqGuard], (equal_nil hu).2.1 _ _⟩
    · rename_i hu
      simp only [VRel] at hx hy
      obtain ⟨u, rfl, _⟩ := hx; subst hy
      simp only [Option.some.injEq] at h; subst h
      exact ⟨by cases op <;> simp [eqGuard], (equal_nil hu).2.2 _ _⟩
    · refine ⟨?_, eq_sound h hx hy (by decide)⟩
      simp only [VRel] at hx hy
      obtain ⟨u, rfl, _⟩ := hx
      obtain ⟨u', rfl, _⟩ := hy
      cases op <;> simp [eqGuard]
    · rename_i hu
      simp only [VRel] at hx hy
      subst hx hy
      split at h
      · rename_i hc
        simp only [Option.some.injEq] at h; subst h
        obtain ⟨c, rfl⟩ := isConst_some hc
        cases ‹ErrD› <;> simp only [errVal, ErrD.isNil] <;> refine ⟨?_, ?_⟩
        · cases op <;> cases ox <;> simp [eqGuard]
        · exact (equal_nil hu).1
        · cases op <;> simp [eqGuard]
        · exact (equal_nil hu).2.2 _ _
        · cases op <;> simp [eqGuard]
        · exact (equal_nil hu).2.2 _ _
      · simp at h
    · rename_i hu
      simp only [VRel] at hx hy
      subst hx hy
      split at h
      · rename_i hc
        simp only [Option.some.injEq] at h; subst h
        obtain ⟨c, rfl⟩ := isConst_some hc
        cases ‹ErrD› <;> simp only [errVal, ErrD.isNil] <;> refine ⟨?_, ?_⟩
        · cases op <;> simp [eqGuard]
        · exact (equal_nil hu).1
        · cases op <;> simp [eqGuard]
        · exact (equal_nil hu).2.1 _ _
        · cases op <;> simp [eqGuard]
        · exact (equal_nil hu).2.1 _ _
      · simp at h
    · rename_i tf te z b n hu
      simp only [VRel] at hx hy
      obtain ⟨u, rfl, rfl⟩ := hy
      subst hx
      split at h
      · rename_i hc
        obtain ⟨rfl, hne, hi⟩ := hc
        simp only [Option.some.injEq] at h; subst h
        unfold isI64 at hi
        simp only [Bool.and_eq_true] at hi
        obtain ⟨hi1, hi2⟩ := hi
        split at hi2
        · rename_i hu2
          cases z with
          | nil => exact ⟨by cases op <;> simp [errVal, eqGuard], (equal_nil hu).2.1 _ _⟩
          | fault c l e =>
            refine ⟨by cases op <;> simp [errVal, eqGuard], ?_⟩
            have h0 : eqAV P 20 t (.ifc tf .junk) (.ifc b (.it .i64 n)) = some false := eqAV_ifc_ne (n := 19) hu hne
            exact eq_sound (r := r) h0 (by simp only [errVal, VRel]; exact ⟨_, rfl, trivial⟩) (by simp only [VRel]; exact ⟨_, rfl, rfl⟩) (by decide)
          | code m =>
            refine ⟨by cases op <;> simp [errVal, eqGuard], ?_⟩
            have h0 : eqAV P 20 t (.ifc b (.it .i64 m)) (.ifc b (.it .i64 n)) = some (m == n) := eqAV_ifc_int (n := 18) hu hi1 hu2
            exact eq_sound (r := r) h0 (by simp only [errVal, VRel]; exact ⟨_, rfl, rfl⟩) (by simp only [VRel]; exact ⟨_, rfl, rfl⟩) (by decide)
        · cases hi2
      · simp at h
    · simp at h
  · rename_i hg
    simp only [Bool.not_eq_true] at hg
    split at h
    · rename_i hu
      simp only [Option.some.injEq] at h; subst h
      simp only [VRel] at hx hy
      obtain ⟨_, p, n, c, rfl, hp⟩ := hx
      subst hy
      refine ⟨eqGuard_free hg (by simp), ?_⟩
      have key : ∀ d, (Op.equalIn (d + 1) t (.slice p n c) (.slice none 0 0)).run P w = .ok p.isNone w := fun d => by
        cases p <;> simp [Op.equalIn, run_underlying' hu]
      rw [← hp]
      exact key 9999
    · split at h
      · rename_i hn
        exact ⟨eqGuard_free hg (no_num hx hn).nil, eq_sound h hx hy (by decide)⟩
      · simp at h

theorem eqT_num {P : Program} {r : Res} {t : TypeId} {ox oy : Operand} {x y : AV} {vx : Value} {c : Bool} (h : eqT P t ox oy x y = some c) (hx : VRel r x vx) : NoNum vx ∨ vx = .nilIface := by
  unfold eqT at h
  split at h
  · split at h
    · exact .inr (by simpa only [VRel] using hx)
    · exact .inr (by simpa only [VRel] using hx)
    · exact .inl (no_num hx rfl)
    · exact .inl (no_num hx rfl)
    · simp only [VRel] at hx
      subst hx
      cases ‹ErrD›
      · exact .inr rfl
      · exact .inl (by constructor <;> simp [errVal])
      · exact .inl (by constructor <;> simp [errVal])
    · exact .inr (by simpa only [VRel] using hx)
    · simp only [VRel] at hx
      subst hx
      cases ‹ErrD›
      · exact .inr rfl
      · exact .inl (by constructor <;> simp [errVal])
      · exact .inl (by constructor <;> simp [errVal])
    · simp at h
  · split at h
    · simp only [VRel] at hx
      obtain ⟨_, p, n, c, rfl, _⟩ := hx
      exact .inl (by constructor <;> simp)
    · split at h
      · rename_i hn; exact .inl (no_num hx hn)
      · simp at h

theorem bin_eq {P : Program} {w : World} {t : TypeId} {op : BinOp} {vx vy : Value} {c : Bool} (hop : isEq op = true) (h : (Op.equal t vx vy).run P w = .ok c w)
    (hN : NoNum vx ∨ (vx = .nilIface)) :
    (binOp op t vx vy).run P w = .ok (.bool (if op = .eql then c else !c)) w := by
  have hk : ∀ k a, vx ≠ .int k a := by rcases hN with h | h; exact h.int; (subst h; simp)
  have hf : ∀ k a, vx ≠ .float k a := by rcases hN with h | h; exact h.float; (subst h; simp)
  have hs : ∀ s, vx ≠ .string s := by rcases hN with h | h; exact h.string; (subst h; simp)
  have hc : ∀ k a b, vx ≠ .complex k a b := by rcases hN with h | h; exact h.complex; (subst h; simp)
  cases op <;> simp [isEq] at hop
  · have : binOp .eql t vx vy = (do let c ← Op.equal t vx vy; pure (.bool c)) := by
      cases vx <;> first
        | exact absurd rfl (hk _ _) | exact absurd rfl (hf _ _) | exact absurd rfl (hs _) | exact absurd rfl (hc _ _ _)
        | rfl
    rw [this]; simp [h]
  · have : binOp .neq t vx vy = (do let c ← Op.equal t vx vy; pure (.bool (!c))) := by
      cases vx <;> first
        | exact absurd rfl (hk _ _) | exact absurd rfl (hf _ _) | exact absurd rfl (hs _) | exact absurd rfl (hc _ _ _)
        | rfl
    rw [this]; simp [h]

theorem bin_gives0 {P : Program} {w : World} {r : Res} {op : BinOp} {t : TypeId} {ox oy : Operand} {x y v : AV} {vx vy : Value} (h : (binAV0 P op t ox oy x y).run = some v) (hx : VRel r x vx) (hy : VRel r y vy)
    (hl : ∀ n, litInt oy = some n → ∃ k, y = .it k n) : Gives P (do eqGuard op t ox oy vx vy; binOp op t vx vy) w (VRel r v) := by
  unfold binAV0 at h
  split at h
  · -- shl
    simp only [VRel] at hx hy; subst hx hy
    rcases run_ite h with ⟨_, h⟩ | ⟨hb, h⟩
    · exact (run_fail h).elim
    · have := run_ret h; subst this
      refine .seq (eqGuard_other rfl) (.of ?_ (VRel.it r _ _))
      have hb' : ¬ (_ : Int) < 0 := of_decide_eq_false hb
      simp [binOp, Op.shift, hb']
  · simp only [VRel] at hx hy; subst hx hy
    rcases run_ite h with ⟨_, h⟩ | ⟨hb, h⟩
    · exact (run_fail h).elim
    · have := run_ret h; subst this
      refine .seq (eqGuard_other rfl) (.of ?_ (VRel.it r _ _))
      have hb' : ¬ (_ : Int) < 0 := of_decide_eq_false hb
      simp [binOp, Op.shift, hb']
  · -- quo
    simp only [VRel] at hx hy; subst hx hy
    split at h
    · rename_i k a k' b hk; subst hk
      split at h
      · rename_i n hn
        obtain ⟨k2, e⟩ := hl n hn
        cases e
        split at h
        · exact (run_fail h).elim
        · rename_i hz
          have := run_ret h; subst this
          exact .seq (eqGuard_other rfl) (.of (by simp [binOp, Op.intDiv, hz]) (VRel.it r _ _))
      · rcases run_ite h with ⟨_, h⟩ | ⟨hb, h⟩
        · exact (run_fail h).elim
        · have := run_ret h; subst this
          have hz : ¬ b = 0 := by simpa using hb
          exact .seq (eqGuard_other rfl) (.of (by simp [binOp, Op.intDiv, hz]) (VRel.it r _ _))
    · exact (run_fail h).elim
  · -- rem
    simp only [VRel] at hx hy; subst hx hy
    split at h
    · rename_i k a k' b hk; subst hk
      split at h
      · rename_i n hn
        obtain ⟨k2, e⟩ := hl n hn
        cases e
        split at h
        · exact (run_fail h).elim
        · rename_i hz
          have := run_ret h; subst this
          exact .seq (eqGuard_other rfl) (.of (by simp [binOp, Op.intDiv, hz]) (VRel.it r _ _))
      · rcases run_ite h with ⟨_, h⟩ | ⟨hb, h⟩
        · exact (run_fail h).elim
        · have := run_ret h; subst this
          have hz : ¬ b = 0 := by simpa using hb
          exact .seq (eqGuard_other rfl) (.of (by simp [binOp, Op.intDiv, hz]) (VRel.it r _ _))
    · exact (run_fail h).elim
  · -- other whole numbers
    simp only [VRel] at hx hy; subst hx hy
    split at h
    · rename_i k a k' b _ _ _ _ hk; subst hk
      obtain ⟨u, e, hr⟩ := intBin_gives P w r t (run_optT h)
      exact .seq (by rw [eqGuard_at_int]; rfl) (.of e hr)
    · exact (run_fail h).elim
  · have := run_ret h; subst this
    simp only [VRel] at hx hy ⊢
    exact .seq (eqGuard_other rfl) (fop_gives (.inl rfl) P w hx hy t)
  · have := run_ret h; subst this
    simp only [VRel] at hx hy ⊢
    exact .seq (eqGuard_other rfl) (fop_gives (.inr (.inl rfl)) P w hx hy t)
  · have := run_ret h; subst this
    simp only [VRel] at hx hy ⊢
    exact .seq (eqGuard_other rfl) (fop_gives (.inr (.inr (.inl rfl))) P w hx hy t)
  · have := run_ret h; subst this
    simp only [VRel] at hx hy ⊢
    exact .seq (eqGuard_other rfl) (fop_gives (.inr (.inr (.inr rfl))) P w hx hy t)
  · -- other floats
    rename_i a b _ _ _ _
    have h := run_optT h
    cases hc : fcmp op a b with
    | none => rw [hc] at h; simp at h
    | some c =>
      rw [hc] at h; simp at h; subst h
      simp only [VRel] at hx hy
      have e := fcmp_gives P w hx hy t hc
      obtain ⟨x', rfl, _⟩ := hx.ofBits
      exact .seq (by rw [eqGuard_at_float]; rfl) (.of e (VRel.bo r _))
  · -- strings
    simp only [VRel] at hx hy; subst hx hy
    rcases run_ite h with ⟨_, h⟩ | ⟨hb, h⟩
    · exact (run_fail h).elim
    · have := run_ret h; subst this
      refine .seq (eqGuard_other rfl) (.of ?_ (VRel.sr r _))
      have hb' := of_decide_eq_false hb
      simp only [binOp, Op.stringOp]
      rw [if_neg hb']
      rfl
  · rename_i a b _
    have h := run_optT h
    simp only [VRel] at hx hy; subst hx hy
    cases hc : scmp op a b with
    | none => rw [hc] at h; simp at h
    | some c =>
      rw [hc] at h; simp at h; subst h
      exact .seq (by rw [eqGuard_at_string]; rfl) (.of (scmp_gives P w t hc) (VRel.bo r _))
  · have h := run_optT h
    cases hc : eqT P t ox oy x y with
    | none => rw [hc] at h; simp at h
    | some c =>
      rw [hc] at h; simp at h; subst h
      obtain ⟨h1, h2⟩ := eqT_sound (w := w) hc hx hy .eql
      exact .seq h1 (.of (bin_eq rfl h2 (eqT_num hc hx)) (VRel.bo r _))
  · have h := run_optT h
    cases hc : eqT P t ox oy x y with
    | none => rw [hc] at h; simp at h
    | some c =>
      rw [hc] at h; simp at h; subst h
      obtain ⟨h1, h2⟩ := eqT_sound (w := w) hc hx hy .neq
      exact .seq h1 (.of (bin_eq rfl h2 (eqT_num hc hx)) (VRel.bo r _))
  · exact (run_fail h).elim

theorem settle_rel {r : Res} {v : AV} {u : Value} (h : VRel r v u) : VRel r (settle v) u := by
  unfold settle
  split
  · simpa only [VRel] using h
  · simpa only [VRel] using h
  · exact h

theorem bin_gives {P : Program} {w : World} {r : Res} {op : BinOp} {t : TypeId} {ox oy : Operand} {x y v : AV} {vx vy : Value} (h : (binAV P op t ox oy x y).run = some v) (hx : VRel r x vx) (hy : VRel r y vy)
    (hl : ∀ n, litInt oy = some n → ∃ k, y = .it k n) : Gives P (do eqGuard op t ox oy vx vy; binOp op t vx vy) w (VRel r v) := by
  unfold binAV at h
  split at h
  · obtain ⟨a, h1, h2⟩ := run_bind h
    have := run_ret h2; subst this
    obtain ⟨u, w', e1, e2, e3⟩ := bin_gives0 h1 hx hy hl
    exact ⟨u, w', e1, e2, settle_rel e3⟩
  · exact bin_gives0 h hx hy hl

end Go.Proofs.Pen


namespace Go.Proofs.Pen
open Go

theorem add_add (a : Addr) (m n : Nat) : (a.add m).add n = a.add (m + n) := by
  unfold Addr.add
  by_cases hm : m = 0
  · subst hm; simp
  · by_cases hn : n = 0
    · subst hn; simp [hm]
    · simp [hm, hn, Nat.add_assoc]
theorem add_none (b o n : Nat) : (⟨b, o, none⟩ : Addr).add n = ⟨b, o + n, none⟩ := by
  unfold Addr.add
  by_cases hn : n = 0
  · subst hn; simp
  · simp [hn]
theorem add_zero' (a : Addr) : a.add 0 = a := by simp [Addr.add]
theorem cell_at {w : World} {b : Nat} {vs : List Value} {e : TypeId} {fz : Nat × Nat} (h : w.heap[b]? = some (.cells vs.toArray e fz)) (o : Nat) : w.cell? ⟨b, o, none⟩ = vs[o]? := by
  simp [World.cell?, h]

def CellsIn (w : World) (p : Addr) (us : List Value) : Prop := ∀ j u, us[j]? = some u → w.cell? (p.add j) = some u

theorem CellsIn.drop {w : World} {p : Addr} {us : List Value} (h : CellsIn w p us) (n : Nat) : CellsIn w (p.add n) (us.drop n) := fun j u e => by
  rw [add_add]; exact h _ _ (by simpa using e)
theorem CellsIn.take {w : World} {p : Addr} {us : List Value} (h : CellsIn w p us) (n : Nat) : CellsIn w p (us.take n) := fun j u e => by
  refine h _ _ ?_
  rw [List.getElem?_take] at e
  split at e
  · exact e
  · simp at e

theorem CellsAt.drop {H : Addr → Option Value} {p : Addr} {us : List Value} (h : CellsAt H p us) (n : Nat) : CellsAt H (p.add n) (us.drop n) := fun j u e => by
  rw [add_add]; exact h _ _ (by simpa using e)

theorem run_loadFrom {P : Program} {w : World} {p : Addr} : ∀ (us : List Value) (i : Nat) (acc : Array Value), (∀ j u, us[j]? = some u → w.cell? (p.add (i + j)) = some u) →
    (loadCellsFrom p i us.length acc).run P w = .ok (acc ++ us.toArray) w
  | [], i, acc, _ => by simp [loadCellsFrom]
  | u :: us, i, acc, h => by
    have h0 := h 0 u (by simp)
    have ih := run_loadFrom (P := P) us (i + 1) (acc.push u) fun j v e => by
      have := h (j + 1) v (by simpa using e)
      rwa [Nat.add_assoc, Nat.add_comm 1 j]
    simp only [List.length_cons, loadCellsFrom, Sem.run_bind]
    have : (load (p.add i)).run P w = .ok u w := by simp only [Nat.add_zero] at h0; simp [h0]
    rw [this]
    simp only [Result.andThen]
    rw [ih]
    simp

theorem run_loadCells {P : Program} {w : World} {p : Addr} {us : List Value} (h : CellsIn w p us) : (loadCells p us.length).run P w = .ok us.toArray w := by
  unfold loadCells
  rw [run_loadFrom us 0 #[] fun j u e => by simpa using h j u e]
  simp

theorem run_loadVar {P : Program} {w : World} {r : Res} {t : TypeId} {cs : List AV} {us : List Value} {p : Addr} {off : Nat} {v : AV} (hl : LRel r cs us) (hc : CellsIn w p us)
    (h : (partAV P t cs off).run = some v) : ∃ u, (loadVar t (p.add off)).run P w = .ok u w ∧ VRel r v u := by
  unfold partAV at h
  split at h
  · rename_i n d hn hd
    have hu : (P.underlying t).isSome = true := by rw [hd]; rfl
    split at h
    · rename_i ha
      split at h
      · rename_i hle
        have := run_ret h; subst this
        refine ⟨.agg ((us.drop off).take n).toArray, ?_, ?_⟩
        · have hlen : ((us.drop off).take n).length = n := by rw [List.length_take, List.length_drop, hl.length]; omega
          have hk := run_loadCells (P := P) ((hc.drop off).take n)
          rw [hlen] at hk
          simp [loadVar, run_isAgg' hu, ha, run_sizeOf' hn, hk]
        · simp only [VRel]; exact ⟨_, rfl, (hl.drop off).take n⟩
      · exact (run_fail h).elim
    · rename_i ha
      split at h
      · rename_i c hcs
        have := run_ret h; subst this
        obtain ⟨u, hu1, hu2⟩ := hl.get hcs
        have := hc off u hu1
        refine ⟨u, ?_, hu2⟩
        simp only [Bool.not_eq_true] at ha
        simp [loadVar, run_isAgg' hu, ha, this]
      · exact (run_fail h).elim
  · exact (run_fail h).elim

theorem run_partAV {P : Program} {w : World} {r : Res} {t : TypeId} {cs : List AV} {us : List Value} {off : Nat} {v : AV} (hl : LRel r cs us)
    (h : (partAV P t cs off).run = some v) : ∃ u, (part t us.toArray off).run P w = .ok u w ∧ VRel r v u := by
  unfold partAV at h
  split at h
  · rename_i n d hn hd
    have hu : (P.underlying t).isSome = true := by rw [hd]; rfl
    split at h
    · rename_i ha
      split at h
      · have := run_ret h; subst this
        refine ⟨.agg ((us.drop off).take n).toArray, ?_, ?_⟩
        · simp [part, run_isAgg' hu, ha, run_sizeOf' hn]
        · simp only [VRel]; exact ⟨_, rfl, (hl.drop off).take n⟩
      · exact (run_fail h).elim
    · rename_i ha
      simp only [Bool.not_eq_true] at ha
      split at h
      · rename_i c hcs
        have := run_ret h; subst this
        obtain ⟨u, hu1, hu2⟩ := hl.get hcs
        exact ⟨u, by simp [part, run_isAgg' hu, ha, hu1], hu2⟩
      · exact (run_fail h).elim
  · exact (run_fail h).elim

def isLive : Blk → Bool
  | .dead => false
  | _ => true

def Thaw (fz : Nat × Nat) (n : Nat) : Prop := fz.1 = fz.2 ∨ n ≤ fz.1

def BRel (r : Res) (w : World) (b : Nat) (C : Nat × Nat) : Blk → Prop
  | .cells cs => ∃ vs e fz, w.heap[b]? = some (.cells (List.toArray vs) e fz) ∧ LRel r cs vs ∧ Thaw fz vs.length
  | .row t xs => ∃ vs e fz, w.heap[b]? = some (.cells (List.toArray vs) e fz) ∧ xs.length = C.2 ∧ C.2 ≤ C.1 ∧ C.1 * t.sz ≤ vs.length ∧ Thaw fz vs.length ∧
      ∀ i x, xs[i]? = some x → ∃ us, us.length = t.sz ∧ TRel r.H t x us ∧ ∀ j u, us[j]? = some u → vs[i * t.sz + j]? = some u
  | .dead => True
  | .mp l => ∃ es clock, w.heap[b]? = some (.map es clock) ∧ es.toList.map (fun e => (e.key, e.val)) = l.map fun x => (Value.string x.1, Value.bool x.2)

theorem BRel.mono {r r' : Res} {w : World} {b : Nat} {C : Nat × Nat} {k : Blk} (h : r.le r') (hb : BRel r w b C k) : BRel r' w b C k := by
  cases k with
  | cells cs => obtain ⟨vs, e, fz, h1, h2, h3⟩ := hb; exact ⟨vs, e, fz, h1, LRel.mono h _ _ h2, h3⟩
  | row t xs =>
    obtain ⟨vs, e, fz, h1, h2, h2', h3, h4, h5⟩ := hb
    exact ⟨vs, e, fz, h1, h2, h2', h3, h4, fun i x hi => by
      obtain ⟨us, k1, k2, k3⟩ := h5 i x hi
      exact ⟨us, k1, TRel.mono h.H _ _ _ k2, k3⟩⟩
  | dead => trivial
  | mp l => exact hb

theorem BRel.heap {r : Res} {w w' : World} {b : Nat} {C : Nat × Nat} {k : Blk} (h : w'.heap[b]? = w.heap[b]?) (hb : BRel r w b C k) : BRel r w' b C k := by
  cases k with
  | cells cs => obtain ⟨vs, e, fz, h1, h2⟩ := hb; exact ⟨vs, e, fz, h.trans h1, h2⟩
  | row t xs => obtain ⟨vs, e, fz, h1, h2⟩ := hb; exact ⟨vs, e, fz, h.trans h1, h2⟩
  | dead => trivial
  | mp l => obtain ⟨es, c, h1, h2⟩ := hb; exact ⟨es, c, h.trans h1, h2⟩

def globOf (P : Program) (a : Addr) : Option Value :=
  match P.globalNamed "errors.errorType", (P.cutTypes.find? (·.1 == "internal/reflectlite.rtype")).map (·.2), (List.range P.types.size).find? (fun t => P.rowNamed t [101, 114, 114, 111, 114]) with
  | some g, some rt, some ty => if a = ⟨g, 0, none⟩ then some (.iface rt (.agg #[typeHandle P ty])) else none
  | _, _, _ => none

structure Base (P : Program) extends World where
  H0 : Addr → Option Value
  Z : Nat → Prop := fun _ => False     -- numbers that no block stands for

structure Rel {P : Program} (w0 : Base P) (M : Nat → Prop) (S : Nat → Prop) (own : List Blk) (r : Res) (w : World) : Prop where
  os : w.os = w0.os
  tape : w.tape = w0.tape
  output : OutLe w0.toWorld w
  size : w0.heap.size ≤ w.heap.size
  base : ∀ b, b < w0.heap.size → ¬ M b → w.heap[b]? = w0.heap[b]?
  pers : ∀ a v, r.H a = some v → w.cell? a = some v
  blk : ∀ id k, S id → own[id]? = some k → isLive k = true →
    (∃ b C, r.ι id = some (b, C) ∧ BRel r w b C k ∧ (M b ∨ w0.heap.size ≤ b) ∧ ∀ a v, r.H a = some v → a.block ≠ b) ∨ (r.ι id = none ∧ ∃ t, k = .row t [])
  inj : ∀ i j k l b C C', S i → S j → own[i]? = some k → own[j]? = some l → isLive k = true → isLive l = true → r.ι i = some (b, C) → r.ι j = some (b, C') → i = j
  dom : ∀ i, ¬ S i → r.ι i = none
  up : ∀ a v, r.H a = some v → w0.H0 a = some v ∨ w0.heap.size ≤ a.block ∨ M a.block
  zero : ∀ i, w0.Z i → S i ∧ r.ι i = none
  glob : ∀ a v, globOf P a = some v → r.H a = some v

theorem Rel.same {P : Program} {w0 : Base P} {w w' : World} {M S : Nat → Prop} {own : List Blk} {r : Res} (h : Rel w0 M S own r w) (k : Same w w') : Rel w0 M S own r w' where
  os := k.os.trans h.os
  tape := k.tape.trans h.tape
  output := k.output.trans h.output
  size := by rw [k.heap]; exact h.size
  base b h1 h2 := by rw [k.heap]; exact h.base b h1 h2
  pers a v e := by rw [← h.pers a v e]; unfold World.cell?; rw [k.heap]
  blk id b h1 h2 h3 := by
    rcases h.blk id b h1 h2 h3 with ⟨c, C, e, hb, hm⟩ | h
    · exact .inl ⟨c, C, e, hb.heap (by rw [k.heap]), hm⟩
    · exact .inr h
  inj := h.inj
  dom := h.dom
  up := h.up
  zero := h.zero
  glob := h.glob

theorem Rel.there {P : Program} {w0 : Base P} {w : World} {M S : Nat → Prop} {own : List Blk} {r : Res} (h : Rel w0 M S own r w) {i : Nat} {p : Nat × (Nat × Nat)} (e : r.ι i = some p) : S i := by
  apply Classical.byContradiction
  intro hn
  rw [h.dom i hn] at e
  cases e

def Agree (own ownF : List Blk) : Prop := ∀ i, i < own.length → ownF[i]? = own[i]?

theorem rowAt_live {own ownF : List Blk} (h : Agree own ownF) {id : Nat} {k : Blk} (e : rowAt own id = k) (hl : isLive k = true) : ownF[id]? = some k := by
  unfold rowAt at e
  rcases Nat.lt_or_ge id own.length with h1 | h1
  · rw [h id h1, List.getElem?_eq_getElem h1]
    rw [List.getD_eq_getElem?_getD, List.getElem?_eq_getElem h1] at e
    simpa using e
  · rw [List.getD_eq_getElem?_getD, List.getElem?_eq_none h1] at e
    simp at e
    subst e
    simp [isLive] at hl

theorem Rel.cells {P : Program} {w0 : Base P} {w : World} {M S : Nat → Prop} {own ownF : List Blk} {r : Res} (h : Rel w0 M S ownF r w) (ha : Agree own ownF) {id b : Nat} {C : Nat × Nat} {cs : List AV} (e : rowAt own id = .cells cs)
    (hi : r.ι id = some (b, C)) : ∃ vs, CellsIn w ⟨b, 0, none⟩ vs ∧ LRel r cs vs := by
  rcases h.blk id _ (h.there hi) (rowAt_live ha e rfl) rfl with ⟨b', C', h1, h2, _⟩ | ⟨h1, _⟩
  · rw [hi] at h1
    cases h1
    obtain ⟨vs, e, fz, k1, k2, k3⟩ := h2
    exact ⟨vs, fun j u hj => by rw [add_none, cell_at k1]; simpa using hj, k2⟩
  · rw [hi] at h1; cases h1

theorem Rel.row {P : Program} {w0 : Base P} {w : World} {M S : Nat → Prop} {own ownF : List Blk} {r : Res} (h : Rel w0 M S ownF r w) (ha : Agree own ownF) {id b : Nat} {C : Nat × Nat} {t : Ty} {xs : List t.den} (e : rowAt own id = .row t xs)
    (hi : r.ι id = some (b, C)) : xs.length = C.2 ∧ ∀ i x, xs[i]? = some x → ∃ us, us.length = t.sz ∧ TRel r.H t x us ∧ CellsIn w ⟨b, i * t.sz, none⟩ us := by
  rcases h.blk id _ (h.there hi) (rowAt_live ha e rfl) rfl with ⟨b', C', h1, h2, _⟩ | ⟨h1, _⟩
  · rw [hi] at h1
    cases h1
    obtain ⟨vs, e, fz, k1, k2, _, k3, k4, k5⟩ := h2
    exact ⟨k2, fun i x hx => by
      obtain ⟨us, l1, l2, l3⟩ := k5 i x hx
      exact ⟨us, l1, l2, fun j u hj => by rw [add_none, cell_at k1]; exact l3 j u hj⟩⟩
  · rw [hi] at h1; cases h1

theorem Rel.cellsIn {P : Program} {w0 : Base P} {w : World} {M S : Nat → Prop} {own : List Blk} {r : Res} (h : Rel w0 M S own r w) {p : Addr} {us : List Value} (k : CellsAt r.H p us) : CellsIn w p us := fun j u e => h.pers _ _ (k j u e)

end Go.Proofs.Pen

namespace Go.Proofs.Pen
open Go

theorem Gives.mono {P : Program} {s : Sem Value} {w : World} {R R' : Value → Prop} (h : Gives P s w R) (k : ∀ u, R u → R' u) : Gives P s w R' := by
  obtain ⟨u, w', e, hs, hR⟩ := h
  exact ⟨u, w', e, hs, k _ hR⟩

theorem nan_iff {x : Nat} : NaN64 x ↔ FloatKind.f64.format.infRung < x % FloatKind.f64.format.signWeight := by
  refine ⟨fun h => ?_, fun h => read_nan (by decide) h⟩
  unfold NaN64 Ieee.Format.read at h
  dsimp only at h
  split at h
  · simp [Ieee.Datum.isNaN] at h
  · split at h
    · simp [Ieee.Datum.isNaN] at h
    · split at h
      · simp [Ieee.Datum.isNaN] at h
      · omega

theorem nan_neg {x : Nat} (h : NaN64 x) : NaN64 (Op.negFloat .f64 x) := by
  rw [nan_iff] at h ⊢
  have e : FloatKind.f64.format.signWeight = 2 ^ 63 := by decide
  have e2 : (2 : Nat) ^ (FloatKind.f64.format.exponentBits + FloatKind.f64.format.fractionBits) = 2 ^ 63 := by decide
  unfold Op.negFloat
  rw [e2, e, Nat.xor_mod_two_pow, Nat.mod_self, Nat.xor_zero]
  rw [e] at h
  exact h

section
variable {P : Program} {w0 : Base P} {w : World} {M S : Nat → Prop} {own ownF : List Blk} {r : Res}

theorem load_exact {t : TypeId} {x v : AV} {vx : Value} (hR : Rel w0 M S ownF r w) (ha : Agree own ownF) (h : (loadAV P own t x).run = some v) (hx : VRel r x vx) :
    ∃ u, (Instr.loadAt t vx).run P w = .ok u w ∧ VRel r v u := by
  unfold loadAV at h
  split at h
  · rename_i id off
    split at h
    · rename_i cs hc
      simp only [VRel] at hx
      obtain ⟨b, C, hi, rfl⟩ := hx
      obtain ⟨vs, k1, k2⟩ := hR.cells ha hc hi
      obtain ⟨u, k3, k4⟩ := run_loadVar (P := P) (t := t) k2 k1 h
      rw [add_none, Nat.zero_add] at k3
      exact ⟨u, by simp [Instr.loadAt, Instr.sureAddr, k3], k4⟩
    · exact (run_fail h).elim
  · simp only [VRel] at hx
    obtain ⟨p, us, rfl, k1, k2⟩ := hx
    obtain ⟨u, k3, k4⟩ := run_loadVar (P := P) (t := t) k1 (hR.cellsIn k2) h
    rw [add_zero'] at k3
    exact ⟨u, by simp [Instr.loadAt, Instr.sureAddr, k3], k4⟩
  · rename_i a id ix off
    split at h
    · rename_i a' xs hc
      split at h
      · rename_i ht; subst ht
        obtain ⟨e, he, h⟩ := run_opt h
        simp only [VRel] at hx
        obtain ⟨b, C, hi, rfl⟩ := hx
        obtain ⟨us, k1, k2, k3⟩ := (hR.row ha hc hi).2 _ _ he
        obtain ⟨u, k4, k5⟩ := run_loadVar (P := P) (t := t) (LRel.enc k2) k3 h
        rw [add_none] at k4
        exact ⟨u, by simp [Instr.loadAt, Instr.sureAddr, k4], k5⟩
      · exact (run_fail h).elim
    · exact (run_fail h).elim
  · exact (run_fail h).elim

theorem load_gives {t : TypeId} {x v : AV} {vx : Value} (hR : Rel w0 M S ownF r w) (ha : Agree own ownF) (h : (loadAV P own t x).run = some v) (hx : VRel r x vx) :
    Gives P (Instr.loadAt t vx) w (VRel r v) := by
  obtain ⟨u, h1, h2⟩ := load_exact hR ha h hx
  exact .of h1 h2

theorem field_gives {s : TypeId} {f : Nat} {x v : AV} {vx : Value} (h : (ptrField P s x f).run = some v) (hx : VRel r x vx) :
    Gives P (Instr.fieldAt s vx f) w (VRel r v) := by
  unfold ptrField at h
  split at h
  · rename_i fs hu
    split at h
    · rename_i fd hf
      split at h
      · exact (run_fail h).elim
      · rename_i n hn0 hn
        have key : ∀ p, (Instr.fieldAt s (.pointer (some p)) f).run P w = .ok (.pointer (some (p.add fd.offset))) w := by
          intro p
          have hne : n ≠ 0 := fun e => by subst e; simp at hn0
          simp [Instr.fieldAt, run_underlying' hu, hf, Instr.sureAddr, fieldPlace, run_sizeOf' hn, hne]
        split at h
        · have := run_ret h; subst this
          simp only [VRel] at hx
          obtain ⟨b, C, hi, rfl⟩ := hx
          refine .of (key _) ?_
          rw [add_none]
          simp only [VRel]
          exact ⟨b, C, hi, rfl⟩
        · split at h
          · have := run_ret h; subst this
            simp only [VRel] at hx
            obtain ⟨p, us, rfl, k1, k2⟩ := hx
            refine .of (key _) ?_
            simp only [VRel]
            exact ⟨_, _, rfl, k1.drop _, k2.drop _⟩
          · exact (run_fail h).elim
        · have := run_ret h; subst this
          simp only [VRel] at hx
          obtain ⟨b, C, hi, rfl⟩ := hx
          refine .of (key _) ?_
          rw [add_none]
          simp only [VRel]
          exact ⟨b, C, hi, by rw [Nat.add_assoc]⟩
        · exact (run_fail h).elim
      · exact (run_fail h).elim
    · exact (run_fail h).elim
  · exact (run_fail h).elim

theorem un_gives {op : UnOp} {x v : AV} {vx : Value} (h : (unAV op x).run = some v) (hx : VRel r x vx) : Gives P (Op.unary op vx) w (VRel r v) := by
  unfold unAV at h
  split at h
  · have := run_ret h; subst this
    simp only [VRel] at hx; subst hx
    exact .of (by simp [Op.unary, Op.intArith]) (VRel.it r _ _)
  · have := run_ret h; subst this
    simp only [VRel] at hx; subst hx
    exact .of (by simp [Op.unary, Op.intBits]) (VRel.it r _ _)
  · have := run_ret h; subst this
    simp only [VRel] at hx
    obtain ⟨x, rfl, hx'⟩ := hx.ofBits
    refine .of (u := .float .f64 (Op.negFloat .f64 x)) (by simp [Op.unary]) ?_
    simp only [VRel]
    rcases hx' with rfl | ⟨rfl, hx'⟩
    · rfl
    · exact ⟨_, rfl, nan_neg hx'⟩
  · have := run_ret h; subst this
    simp only [VRel] at hx; subst hx
    exact .of (u := .bool false) (by simp [Op.unary]) (by simp only [VRel])
  · have := run_ret h; subst this
    simp only [VRel] at hx; subst hx
    exact .of (u := .bool true) (by simp [Op.unary]) (by simp only [VRel])
  · have := run_ret h; subst this
    simp only [VRel] at hx; subst hx
    exact .of (by simp [Op.unary]) (VRel.bo r _)
  · exact (run_fail h).elim

theorem run_fold {g : AV → AV → Option AV} {m : Value → Value → Sem Value} (hg : ∀ x y z vx vy, g x y = some z → VRel r x vx → VRel r y vy → ∀ w, Gives P (m vx vy) w (VRel r z)) :
    ∀ (l : List AV) (vs : List Value) (x v : AV) (vx : Value) (w : World), foldAV g x l = some v → VRel r x vx → LRel r l vs → Gives P (vs.foldlM m vx) w (VRel r v)
  | [], vs, x, v, vx, w, h, hx, hl => by
    simp [foldAV] at h; subst h
    simp [LRel] at hl; subst hl
    exact .of (by simp) hx
  | y :: l, vs, x, v, vx, w, h, hx, hl => by
    simp only [LRel] at hl
    obtain ⟨vy, us, rfl, hy, hl⟩ := hl
    unfold foldAV at h
    split at h
    · rename_i z hz
      obtain ⟨u, w1, e1, s1, r1⟩ := hg _ _ _ _ _ hz hx hy w
      obtain ⟨u', w2, e2, s2, r2⟩ := run_fold hg l us z v u w1 h r1 hl
      exact ⟨u', w2, by simp [List.foldlM_cons, e1, e2], s1.trans s2, r2⟩
    · simp at h

theorem min2_gives (x y z : AV) (vx vy : Value) (h : min2 x y = some z) (hx : VRel r x vx) (hy : VRel r y vy) (w : World) : Gives P (Builtin.min2 vx vy) w (VRel r z) := by
  unfold min2 at h
  split at h
  · simp only [VRel] at hx hy; subst hx hy
    split at h
    · simp at h; subst h
      exact .of (by simp [Builtin.min2]) (VRel.it r _ _)
    · simp at h
  · simp at h; subst h
    simp only [VRel] at hx hy ⊢
    obtain ⟨a, rfl, hx'⟩ := hx.ofBits
    obtain ⟨b, rfl, hy'⟩ := hy.ofBits
    have e := ford_eq hx' hy'
    have key : FloatKind.f64.format.order a b = none → Gives P (Builtin.min2 (.float .f64 a) (.float .f64 b)) w (FRel none) := fun hn =>
      ⟨.float .f64 (Question.cut (.nanMinMax .f64 false a b) (w.tape w.drawn (.nanMinMax .f64 false a b))), w.drew, by
        simp only [Builtin.min2, hn, Sem.run_bind, run_choose (P := P) (w := w) (q := .nanMinMax .f64 false a b) rfl]; simp, .drew w, ⟨_, rfl, nan_drawn _⟩⟩
    rcases hx' with rfl | ⟨rfl, hx'⟩
    · rcases hy' with rfl | ⟨rfl, hy'⟩
      · simp only [ordMin]
        cases ho : FloatKind.f64.format.order a b with
        | none => exact key ho
        | some o => cases o <;> exact .of (by simp [Builtin.min2, ho]) rfl
      · exact key (by rw [e]; rfl)
    · rcases hy' with rfl | ⟨rfl, hy'⟩ <;> exact key (by rw [e]; rfl)
  · simp at h

theorem max2_gives (x y z : AV) (vx vy : Value) (h : max2 x y = some z) (hx : VRel r x vx) (hy : VRel r y vy) (w : World) : Gives P (Builtin.max2 vx vy) w (VRel r z) := by
  unfold max2 at h
  split at h
  · simp only [VRel] at hx hy; subst hx hy
    split at h
    · simp at h; subst h
      exact .of (by simp [Builtin.max2]) (VRel.it r _ _)
    · simp at h
  · simp at h; subst h
    simp only [VRel] at hx hy ⊢
    obtain ⟨a, rfl, hx'⟩ := hx.ofBits
    obtain ⟨b, rfl, hy'⟩ := hy.ofBits
    have e := ford_eq hx' hy'
    have key : FloatKind.f64.format.order a b = none → Gives P (Builtin.max2 (.float .f64 a) (.float .f64 b)) w (FRel none) := fun hn =>
      ⟨.float .f64 (Question.cut (.nanMinMax .f64 true a b) (w.tape w.drawn (.nanMinMax .f64 true a b))), w.drew, by
        simp only [Builtin.max2, hn, Sem.run_bind, run_choose (P := P) (w := w) (q := .nanMinMax .f64 true a b) rfl]; simp, .drew w, ⟨_, rfl, nan_drawn _⟩⟩
    rcases hx' with rfl | ⟨rfl, hx'⟩
    · rcases hy' with rfl | ⟨rfl, hy'⟩
      · simp only [ordMax]
        cases ho : FloatKind.f64.format.order a b with
        | none => exact key ho
        | some o => cases o <;> exact .of (by simp [Builtin.max2, ho]) rfl
      · exact key (by rw [e]; rfl)
    · rcases hy' with rfl | ⟨rfl, hy'⟩ <;> exact key (by rw [e]; rfl)
  · simp at h

end
end Go.Proofs.Pen

namespace Go.Proofs.Pen
open Go

section
variable {P : Program} {w0 : Base P} {w : World} {M S : Nat → Prop} {own ownF : List Blk} {r : Res}

theorem among_run {α : Type} {i : Int} {k : Nat → T α} {v : α} : ∀ (n j : Nat), (among i k n j).run = some v → ∃ m, j ≤ m ∧ m < j + n ∧ i = (m : Int) ∧ (k m).run = some v
  | 0, j, h => (run_fail h).elim
  | n + 1, j, h => by
    rcases run_ite h with ⟨hb, h⟩ | ⟨_, h⟩
    · exact ⟨j, Nat.le_refl _, by omega, by simpa using hb, h⟩
    · obtain ⟨m, h1, h2, h3, h4⟩ := among_run n (j + 1) h
      exact ⟨m, by omega, by omega, h3, h4⟩

theorem lget_some {α : Type} {xs : List α} {i : Int} {x : α} (h : lget xs i = some x) : 0 ≤ i ∧ i < xs.length ∧ xs[i.toNat]? = some x := by
  unfold lget at h
  split at h
  · simp at h
  · rename_i hn
    have := (List.getElem?_eq_some_iff.1 h).1
    exact ⟨by omega, by omega, h⟩

theorem ElemsAt.at {α : Type} {H : Addr → Option Value} {R : α → List Value → Prop} {sz : Nat} {xs : List α} {p : Option Addr} (h : ElemsAt H R sz xs p) {i : Nat} {x : α} (e : xs[i]? = some x) :
    ∃ ad us, p = some ad ∧ us.length = sz ∧ R x us ∧ CellsAt H (ad.add (i * sz)) us := by
  obtain ⟨ad, rfl, hx⟩ := h (by intro hn; subst hn; simp at e)
  obtain ⟨us, h1, h2, h3⟩ := hx i x e
  exact ⟨ad, us, rfl, h1, h2, h3⟩

theorem szOk_some {e : TypeId} {t : Ty} (h : szOk P e t = true) : szT P e = some t.sz := by
  unfold szOk at h
  split at h
  · rename_i n hn; rw [hn]; simp at h; rw [h]
  · simp at h

theorem indexAt_slice {t e : TypeId} {s : Nat} {ad : Addr} {len cap : Nat} {k : IntKind} {i : Int} (hu : P.underlying t = some (.slice e)) (hs : szT P e = some s) (h0 : 0 ≤ i) (h1 : i < len) :
    (Instr.indexAt t (.slice (some ad) len cap) (.int k i)).run P w = .ok (.pointer (some (ad.add (i.toNat * s)))) w := by
  simp [Instr.indexAt, asIntOf, run_underlying' hu, run_sizeOf' hs, h0, h1]

theorem indexAt_array {t e : TypeId} {s n : Nat} {ad : Addr} {k : IntKind} {i : Int} (hu : P.underlying t = some (.array n e)) (hs : szT P e = some s) (h0 : 0 ≤ i) (h1 : i < n) :
    (Instr.indexAt t (.pointer (some ad)) (.int k i)).run P w = .ok (.pointer (some (ad.add (i.toNat * s)))) w := by
  simp [Instr.indexAt, asIntOf, run_underlying' hu, run_sizeOf' hs, h0, h1, Instr.sureAddr]

theorem indexAddr_gives {t : TypeId} {oi : Operand} {x ix v : AV} {vx vi : Value} (h : (indexAddrAV P own t oi x ix).run = some v) (hx : VRel r x vx) (hi : VRel r ix vi)
    (hl : ∀ n, litInt oi = some n → ∃ k, ix = .it k n) : Gives P (Instr.indexAt t vx vi) w (VRel r v) := by
  unfold indexAddrAV at h
  split at h
  · rename_i kk i
    simp only [VRel] at hi; subst hi
    split at h
    · rename_i te a xs hu
      split at h
      · rename_i hs
        obtain ⟨e, he, h⟩ := run_opt h
        have := run_ret h; subst this
        obtain ⟨h0, h1, he⟩ := lget_some he
        simp only [VRel] at hx
        obtain ⟨p, c, rfl, hc, hE⟩ := hx
        obtain ⟨ad, us, rfl, k1, k2, k3⟩ := hE.at he
        refine .of (indexAt_slice hu (szOk_some hs) h0 h1) ?_
        simp only [VRel]
        exact ⟨_, us, rfl, LRel.enc k2, k3⟩
      · exact (run_fail h).elim
    · rename_i te a xs hu
      split at h
      · rename_i hs
        obtain ⟨e, he, h⟩ := run_opt h
        have := run_ret h; subst this
        obtain ⟨h0, h1, he⟩ := lget_some he
        simp only [VRel] at hx
        obtain ⟨p, rfl, hE⟩ := hx
        obtain ⟨ad, us, rfl, k1, k2, k3⟩ := hE.at he
        refine .of (indexAt_slice hu (szOk_some hs) h0 h1) ?_
        simp only [VRel]
        exact ⟨_, us, rfl, LRel.enc k2, k3⟩
      · exact (run_fail h).elim
    · rename_i te a id off len cap hu
      split at h
      · rename_i hs
        rcases run_ite h with ⟨hb, h⟩ | ⟨_, h⟩
        · have := run_ret h; subst this
          simp only [Bool.and_eq_true, decide_eq_true_eq] at hb
          obtain ⟨h0, h1⟩ := hb
          simp only [VRel] at hx
          obtain ⟨p, c, rfl, hlc, hcap, hp⟩ := hx
          rcases hp with ⟨rfl, _⟩ | ⟨b, C, hι, rfl, hC⟩
          · omega
          · refine .of (indexAt_slice hu (szOk_some hs) h0 h1) ?_
            simp only [VRel]
            exact ⟨b, C, hι, by rw [add_none, Nat.add_mul]; rfl⟩
        · exact (run_fail h).elim
      · exact (run_fail h).elim
    · rename_i n e id off hu
      split at h
      · exact (run_fail h).elim
      · split at h
        · rename_i s hs
          simp only [VRel] at hx
          obtain ⟨b, C, hι, rfl⟩ := hx
          split at h
          · rename_i m hm
            obtain ⟨k', e'⟩ := hl m hm
            cases e'
            split at h
            · rename_i hb
              have := run_ret h; subst this
              refine .of (indexAt_array hu hs hb.1 hb.2) ?_
              rw [add_none]; simp only [VRel]; exact ⟨b, C, hι, rfl⟩
            · exact (run_fail h).elim
          · obtain ⟨m, h1, h2, rfl, h'⟩ := among_run _ _ h
            have := run_ret h'; subst this
            refine .of (indexAt_array hu hs (by omega) (by omega)) ?_
            rw [add_none]; simp only [VRel]; exact ⟨b, C, hι, by simp⟩
        · exact (run_fail h).elim
    · rename_i n e cs hu
      split at h
      · exact (run_fail h).elim
      · split at h
        · rename_i s hs
          simp only [VRel] at hx
          obtain ⟨p, us, rfl, k1, k2⟩ := hx
          split at h
          · rename_i m hm
            obtain ⟨k', e'⟩ := hl m hm
            cases e'
            split at h
            · rename_i hb
              have := run_ret h; subst this
              refine .of (indexAt_array hu hs hb.1 hb.2) ?_
              simp only [VRel]; exact ⟨_, _, rfl, k1.drop _, k2.drop _⟩
            · exact (run_fail h).elim
          · obtain ⟨m, h1, h2, rfl, h'⟩ := among_run _ _ h
            have := run_ret h'; subst this
            refine .of (indexAt_array hu hs (by omega) (by omega)) ?_
            simp only [VRel]; exact ⟨_, _, rfl, k1.drop _, by simpa using k2.drop _⟩
        · exact (run_fail h).elim
    · exact (run_fail h).elim
  · exact (run_fail h).elim

theorem index_gives {t : TypeId} {oi : Operand} {x ix v : AV} {vx vi : Value} (h : (indexAV P t oi x ix).run = some v) (hx : VRel r x vx) (hi : VRel r ix vi)
    (hl : ∀ n, litInt oi = some n → ∃ k, ix = .it k n) : Gives P (Instr.index t vx vi) w (VRel r v) := by
  unfold indexAV at h
  split at h
  · rename_i kk i
    simp only [VRel] at hi; subst hi
    split at h
    · rename_i s hu
      obtain ⟨b, hb, h⟩ := run_opt h
      have := run_ret h; subst this
      simp only [VRel] at hx; subst hx
      unfold sget at hb
      split at hb
      · simp at hb
      · rename_i hn
        cases hs : s[i.toNat]? with
        | none => rw [hs] at hb; simp at hb
        | some c =>
          rw [hs] at hb; simp at hb; subst hb
          exact .of (by simp [Instr.index, asIntOf, run_underlying' hu, show 0 ≤ i by omega, hs]) (VRel.it r _ _)
    · rename_i n e cs hu
      simp only [VRel] at hx
      obtain ⟨us, rfl, k1⟩ := hx
      split at h
      · rename_i s hs
        split at h
        · rename_i m hm
          obtain ⟨k', e'⟩ := hl m hm
          cases e'
          split at h
          · rename_i hb
            obtain ⟨u, e1, e2⟩ := run_partAV (P := P) (w := w) k1 h
            exact .of (by simp [Instr.index, asIntOf, run_underlying' hu, hb, run_sizeOf' hs, e1]) e2
          · exact (run_fail h).elim
        · obtain ⟨m, h1, h2, rfl, h'⟩ := among_run _ _ h
          obtain ⟨u, e1, e2⟩ := run_partAV (P := P) (w := w) k1 h'
          exact .of (by simp [Instr.index, asIntOf, run_underlying' hu, show m < n by omega, run_sizeOf' hs, e1]) e2
      · exact (run_fail h).elim
    · exact (run_fail h).elim
  · exact (run_fail h).elim

theorem len_gives {t ty : TypeId} {x v : AV} {vx : Value} (h : (lenAV P t x).run = some v) (hx : VRel r x vx) : Gives P (Builtin.len_ #[t] ty #[vx]) w (VRel r v) := by
  unfold lenAV at h
  split at h
  · rename_i hu
    have := run_ret h; subst this
    simp only [VRel] at hx; subst hx
    exact .of (by simp [Builtin.len_, run_underlying' hu, goInt]) (VRel.it r _ _)
  · rename_i hu
    have := run_ret h; subst this
    exact .of (by simp [Builtin.len_, run_underlying' hu, goInt]) (VRel.it r _ _)
  · rename_i hu
    have := run_ret h; subst this
    simp only [VRel] at hx; obtain ⟨p, c, rfl, _⟩ := hx
    exact .of (by simp [Builtin.len_, run_underlying' hu, goInt]) (VRel.it r _ _)
  · rename_i hu
    have := run_ret h; subst this
    simp only [VRel] at hx; obtain ⟨p, rfl, _⟩ := hx
    exact .of (by simp [Builtin.len_, run_underlying' hu, goInt]) (VRel.it r _ _)
  · rename_i hu
    have := run_ret h; subst this
    simp only [VRel] at hx; obtain ⟨p, c, rfl, _⟩ := hx
    exact .of (by simp [Builtin.len_, run_underlying' hu, goInt]) (VRel.it r _ _)
  · rename_i hu
    have := run_ret h; subst this
    simp only [VRel] at hx; subst hx
    exact .of (u := .int .i64 0) (by simp [Builtin.len_, run_underlying' hu, goInt]) (VRel.it r _ _)
  · exact (run_fail h).elim

end
end Go.Proofs.Pen

namespace Go.Proofs.Pen
open Go

def ORel (r : Res) : Option AV → Option Value → Prop
  | none, none => True
  | some x, some v => VRel r x v
  | _, _ => False

section
variable {P : Program} {w0 : Base P} {w : World} {M S : Nat → Prop} {own ownF : List Blk} {r : Res}

theorem run_bound {k : IntKind} {i : Int} {y : Nat} {c : BoundsCode} (h0 : 0 ≤ i) (h1 : i ≤ y) : (Instr.sliceBound (.int k i) y c).run P w = .ok i.toNat w := by
  simp [Instr.sliceBound, asIntOf, h0, h1]

theorem bnd_rel {d n : Int} {x : Option AV} {v : Option Value} (h : bnd d x = some n) (hr : ORel r x v) : (x = none ∧ v = none ∧ d = n) ∨ ∃ k, v = some (.int k n) := by
  cases x with
  | none => cases v with
    | none => exact .inl ⟨rfl, rfl, by simpa [bnd] using h⟩
    | some _ => exact hr.elim
  | some x => cases v with
    | none => exact hr.elim
    | some v =>
      cases x <;> simp [bnd] at h
      subst h
      simp only [ORel, VRel] at hr
      exact .inr ⟨_, by rw [hr]⟩

theorem goSlice_run {n cap : Nat} {lo hi mx : Option AV} {vl vh vm : Option Value} {k : Nat → Nat → Option Nat → T AV} {v : AV} {isS : Bool} (h : (goSlice n lo hi mx k).run = some v) (hl : ORel r lo vl) (hh : ORel r hi vh) (hm : ORel r mx vm)
    (hc : n ≤ cap) : ∃ l h' m m', (Instr.sliceBounds isS n cap vl vh vm).run P w = .ok (l, h', m) w ∧ l ≤ h' ∧ h' ≤ n ∧ h' ≤ m ∧ m ≤ cap ∧ (k l h' m').run = some v ∧
      ((mx = none ∧ m' = none ∧ m = cap) ∨ (m' = some (m - l) ∧ m ≤ n)) := by
  unfold goSlice at h
  split at h
  · rename_i l h' e1 e2
    split at h
    · rcases run_ite h with ⟨hb, h⟩ | ⟨_, h⟩
      · simp only [Bool.and_eq_true, decide_eq_true_eq] at hb
        obtain ⟨⟨b1, b2⟩, b3⟩ := hb
        cases vm with
        | some _ => exact hm.elim
        | none =>
          refine ⟨l.toNat, h'.toNat, cap, none, ?_, by omega, by omega, by omega, Nat.le_refl _, h, .inl ⟨rfl, rfl, rfl⟩⟩
          rcases bnd_rel e1 hl with ⟨_, rfl, rfl⟩ | ⟨k1, rfl⟩ <;> rcases bnd_rel e2 hh with ⟨_, rfl, rfl⟩ | ⟨k2, rfl⟩ <;> cases isS <;>
            simp (config := { decide := true }) [Instr.sliceBounds, run_bound, *] <;>
            first
              | done
              | (rw [run_bound (by omega) (by omega)]; simp (config := { decide := true }) [*]; try (rw [run_bound (by omega) (by omega)]; simp))
      · exact (run_fail h).elim
    · rename_i kk m
      split at h
      · rename_i hv
        rcases run_ite h with ⟨hb, h⟩ | ⟨_, h⟩
        · simp only [Bool.and_eq_true, decide_eq_true_eq] at hb
          obtain ⟨⟨⟨b1, b2⟩, b3⟩, b4⟩ := hb
          cases vm with
          | none => exact hm.elim
          | some vm =>
            simp only [ORel, VRel] at hm; subst hm
            have e : (m - l).toNat = m.toNat - l.toNat := by omega
            refine ⟨l.toNat, h'.toNat, m.toNat, _, ?_, by omega, by omega, by omega, by omega, h, .inr ⟨by rw [e], by omega⟩⟩
            have hm' : ∀ y c, m ≤ (y : Nat) → (Instr.sliceBound (.int kk m) y c).run P w = .ok m.toNat w := fun y c hy => run_bound (by omega) hy
            rcases bnd_rel e2 hh with ⟨e0, _⟩ | ⟨k2, rfl⟩
            · cases e0
            · have hh' : ∀ c, (Instr.sliceBound (.int k2 h') m.toNat c).run P w = .ok h'.toNat w := fun c => run_bound (by omega) (by omega)
              rcases bnd_rel e1 hl with ⟨_, rfl, rfl⟩ | ⟨k1, rfl⟩
              · simp [Instr.sliceBounds, hm' cap _ (by omega), hh']
              · have hl' : ∀ c, (Instr.sliceBound (.int k1 l) h'.toNat c).run P w = .ok l.toNat w := fun c => run_bound (by omega) (by omega)
                simp [Instr.sliceBounds, hm' cap _ (by omega), hh', hl']
        · exact (run_fail h).elim
      · exact (run_fail h).elim
    · exact (run_fail h).elim
  · exact (run_fail h).elim

theorem ElemsAt.cut {α : Type} {H : Addr → Option Value} {R : α → List Value → Prop} {sz : Nat} {xs : List α} {p : Option Addr} (h : ElemsAt H R sz xs p) {l n m : Nat} (hm : l + n ≤ m) (hn : l + n ≤ xs.length) :
    ElemsAt H R sz ((xs.drop l).take n) (if m = l then p else p.map (·.add (l * sz))) := fun hne => by
  have hx : xs ≠ [] := by intro e; subst e; simp at hne
  obtain ⟨ad, rfl, hx⟩ := h hx
  have hn0 : n ≠ 0 := by intro e; subst e; simp at hne
  rw [if_neg (by omega)]
  refine ⟨ad.add (l * sz), rfl, fun i x hi => ?_⟩
  rw [List.getElem?_take] at hi
  split at hi
  · rw [List.getElem?_drop] at hi
    obtain ⟨us, h1, h2, h3⟩ := hx _ _ hi
    exact ⟨us, h1, h2, by rw [add_add, ← Nat.add_mul]; exact h3⟩
  · simp at hi

theorem cut_gives {e t : TypeId} {a : Ty} {xs : List a.den} {lo hi mx : Option AV} {vl vh vm : Option Value} {v : AV} {p : Option Addr} {cap : Nat} (hu : P.underlying t = some (.slice e)) (hs : szOk P e a = true)
    (h : (goSlice xs.length lo hi mx (cutSl a xs)).run = some v) (hl : ORel r lo vl) (hh : ORel r hi vh) (hm : ORel r mx vm) (hc : xs.length ≤ cap) (hE : ElemsAt r.H (TRel r.H a) a.sz xs p) :
    Gives P (Instr.sliceAt t (.slice p xs.length cap) vl vh vm) w (VRel r v) := by
  obtain ⟨l, h', m, m', e1, h1, h2, h3, h4, h5, h6⟩ := goSlice_run (P := P) (w := w) (isS := true) h hl hh hm hc
  have e2 : (Instr.sliceAt t (.slice p xs.length cap) vl vh vm).run P w = .ok (.slice (if m = l then p else p.map (·.add (l * a.sz))) (h' - l) (m - l)) w := by
    simp [Instr.sliceAt, Instr.slice, run_underlying' hu, e1, run_sizeOf' (szOk_some hs)]
  have hlen : ((xs.drop l).take (h' - l)).length = h' - l := by rw [List.length_take, List.length_drop]; omega
  have hcut := hE.cut (l := l) (n := h' - l) (m := m) (by omega) (by omega)
  rcases h6 with ⟨_, rfl, rfl⟩ | ⟨rfl, _⟩
  · have := run_ret h5; subst this
    refine .of e2 ?_
    simp only [VRel]
    exact ⟨_, m - l, by rw [hlen], by omega, hcut⟩
  · rcases run_ite h5 with ⟨hb, h5⟩ | ⟨_, h5⟩
    · have := run_ret h5; subst this
      refine .of e2 ?_
      simp only [VRel]
      simp only [beq_iff_eq] at hb
      exact ⟨_, by rw [hlen, hb], hcut⟩
    · have := run_ret h5; subst this
      refine .of e2 ?_
      simp only [VRel]
      exact ⟨_, m - l, by rw [hlen], by omega, hcut⟩

theorem slice_gives {t : TypeId} {x v : AV} {lo hi mx : Option AV} {vx : Value} {vl vh vm : Option Value} (h : (sliceAV P t x lo hi mx).run = some v) (hx : VRel r x vx) (hl : ORel r lo vl) (hh : ORel r hi vh) (hm : ORel r mx vm) :
    Gives P (Instr.sliceAt t vx vl vh vm) w (VRel r v) := by
  unfold sliceAV at h
  split at h
  · rename_i s hu
    simp only [VRel] at hx; subst hx
    split at h
    · obtain ⟨l, h', m, m', e1, h1, h2, h3, h4, h5, h6⟩ := goSlice_run (P := P) (w := w) (isS := false) (vm := vm) h hl hh hm (Nat.le_refl _)
      have := run_ret h5; subst this
      cases vm with
      | some _ => exact hm.elim
      | none => exact .of (by simp [Instr.sliceAt, Instr.slice, run_underlying' hu, e1]) (VRel.sr r _)
    · exact (run_fail h).elim
  · rename_i e a xs hu
    split at h
    · rename_i hs
      simp only [VRel] at hx
      obtain ⟨p, c, rfl, hc, hE⟩ := hx
      exact cut_gives hu hs h hl hh hm hc hE
    · exact (run_fail h).elim
  · rename_i e a xs hu
    split at h
    · rename_i hs
      simp only [VRel] at hx
      obtain ⟨p, rfl, hE⟩ := hx
      exact cut_gives hu hs h hl hh hm (Nat.le_refl _) hE
    · exact (run_fail h).elim
  · rename_i e a id off len cap hu
    split at h
    · rename_i hs
      simp only [VRel] at hx
      obtain ⟨p, c, rfl, hc, hcap, hp⟩ := hx
      obtain ⟨l, h', m, m', e1, h1, h2, h3, h4, h5, h6⟩ := goSlice_run (P := P) (w := w) (isS := true) h hl hh hm hc
      have := run_ret h5; subst this
      refine .of (u := .slice (if m = l then p else p.map (·.add (l * a.sz))) (h' - l) (m - l)) (by simp [Instr.sliceAt, Instr.slice, run_underlying' hu, e1, run_sizeOf' (szOk_some hs)]) ?_
      simp only [VRel]
      refine ⟨_, m - l, rfl, by omega, ?_, ?_⟩
      · intro c' e
        rcases h6 with ⟨_, rfl, _⟩ | ⟨rfl, _⟩
        · cases e
        · simpa using e
      · by_cases hml : m = l
        · exact .inl ⟨by omega, by omega⟩
        · rw [if_neg hml]
          rcases hp with ⟨rfl, rfl⟩ | ⟨b, C, hι, rfl, hC⟩
          · omega
          · exact .inr ⟨b, C, hι, by simp [add_none, Nat.add_mul], by omega, by omega⟩
    · exact (run_fail h).elim
  · rename_i e hu
    split at h
    · rename_i s hs
      simp only [VRel] at hx; subst hx
      obtain ⟨l, h', m, m', e1, h1, h2, h3, h4, h5, h6⟩ := goSlice_run (P := P) (w := w) (isS := true) h hl hh hm (Nat.le_refl _)
      have := run_ret h5; subst this
      obtain rfl : m = 0 := by omega
      obtain rfl : l = 0 := by omega
      obtain rfl : h' = 0 := by omega
      exact .of (u := .slice none 0 0) (by simp [Instr.sliceAt, Instr.slice, run_underlying' hu, e1, run_sizeOf' hs]) (by simp only [VRel])
    · exact (run_fail h).elim
  · exact (run_fail h).elim

end
end Go.Proofs.Pen

namespace Go.Proofs.Pen
open Go

theorem ofConst_rel (r : Res) (v : Value) : VRel r (ofConst v) v := by
  unfold ofConst
  split <;> simp only [VRel] <;> rfl

section
variable {P : Program} {w0 : Base P} {w : World} {M S : Nat → Prop} {own ownF : List Blk} {r : Res}

theorem zeroCells_rel {t : TypeId} {cs : List AV} (h : zeroCells P t = some cs) : ∃ z, (zeroValue t).run P w = .ok z w ∧ LRel r cs z.cells.toList ∧ (P.info? t).bind (·.zero) = some z := by
  unfold zeroCells at h
  cases hi : P.info? t with
  | none => simp [hi] at h
  | some i =>
    simp only [hi, Option.bind_some] at h
    cases hz : i.zero with
    | none => simp [hz] at h
    | some z =>
      refine ⟨z, by simp [zeroValue, typeInfo, program, Sem.run, hi, hz], ?_, by simp [hz]⟩
      rw [hz] at h
      have key : LRel r (z.cells.toList.map ofConst) z.cells.toList := by
        have := LRel.map (r := r) ofConst id z.cells.toList fun x _ => ofConst_rel r x
        simpa using this
      cases z <;> simp at h <;> subst h <;> simpa [Value.cells] using key

theorem zeroAV_rel {t : TypeId} {v : AV} (h : zeroAV P t = some v) : ∃ z, (zeroValue t).run P w = .ok z w ∧ LRel r v.cells z.cells.toList := by
  unfold zeroAV at h
  split at h
  · rename_i cs hc
    obtain ⟨z, h1, h2, _⟩ := zeroCells_rel (w := w) (r := r) hc
    refine ⟨z, h1, ?_⟩
    split at h
    · simp at h; subst h; exact h2
    · split at h
      · rename_i c
        simp at h; subst h
        have : c.cells = [c] ∨ ∃ l, c = .agg l := by cases c <;> simp [AV.cells]
        rcases this with e | ⟨l, rfl⟩
        · rw [e]; exact h2
        · exfalso
          -- a zero's cell is no aggregate
          unfold zeroCells at hc
          split at hc <;> simp at hc
          · rename_i as _
            obtain ⟨u, _, hu⟩ := hc
            unfold ofConst at hu; split at hu <;> cases hu
          · unfold ofConst at hc; split at hc <;> cases hc
      · simp at h
  · simp at h

theorem cells_rel {v : AV} {u : Value} (h : VRel r v u) (hj : v.known = true) : LRel r v.cells u.cells.toList := by
  cases v <;> simp only [AV.known, reduceCtorEq] at hj <;> simp only [AV.cells]
  case agg cs =>
    simp only [VRel] at h
    obtain ⟨vs, rfl, h⟩ := h
    simpa [Value.cells] using h
  all_goals
    have h' := h
    simp only [VRel] at h'
  case undef => subst h'; simp only [LRel]; exact ⟨_, [], by simp [Value.cells, Go.undef], h, rfl⟩
  case tt => subst h'; simp only [LRel]; exact ⟨_, [], by simp [Value.cells], h, rfl⟩
  case ff => subst h'; simp only [LRel]; exact ⟨_, [], by simp [Value.cells], h, rfl⟩
  case bo => subst h'; simp only [LRel]; exact ⟨_, [], by simp [Value.cells], h, rfl⟩
  case it => subst h'; simp only [LRel]; exact ⟨_, [], by simp [Value.cells], h, rfl⟩
  case sr => subst h'; simp only [LRel]; exact ⟨_, [], by simp [Value.cells], h, rfl⟩
  case fl => obtain ⟨x, rfl, _⟩ := h'.ofBits; simp only [LRel]; exact ⟨_, [], by simp [Value.cells], h, rfl⟩
  case tup => obtain ⟨vs, rfl, _⟩ := h'; simp only [LRel]; exact ⟨_, [], by simp [Value.cells], h, rfl⟩
  case sl => obtain ⟨p, c, rfl, _⟩ := h'; simp only [LRel]; exact ⟨_, [], by simp [Value.cells], h, rfl⟩
  case slx => obtain ⟨p, rfl, _⟩ := h'; simp only [LRel]; exact ⟨_, [], by simp [Value.cells], h, rfl⟩
  case osl => obtain ⟨p, c, rfl, _⟩ := h'; simp only [LRel]; exact ⟨_, [], by simp [Value.cells], h, rfl⟩
  case ref => obtain ⟨p, c, _, rfl⟩ := h'; simp only [LRel]; exact ⟨_, [], by simp [Value.cells], h, rfl⟩
  case rel => obtain ⟨p, c, _, rfl⟩ := h'; simp only [LRel]; exact ⟨_, [], by simp [Value.cells], h, rfl⟩
  case ptr => obtain ⟨p, c, rfl, _⟩ := h'; simp only [LRel]; exact ⟨_, [], by simp [Value.cells], h, rfl⟩
  case nilp => subst h'; simp only [LRel]; exact ⟨_, [], by simp [Value.cells], h, rfl⟩
  case nilf => subst h'; simp only [LRel]; exact ⟨_, [], by simp [Value.cells], h, rfl⟩
  case nili => subst h'; simp only [LRel]; exact ⟨_, [], by simp [Value.cells], h, rfl⟩
  case nilsl => subst h'; simp only [LRel]; exact ⟨_, [], by simp [Value.cells], h, rfl⟩
  case clo => obtain ⟨p, c, rfl, _⟩ := h'; simp only [LRel]; exact ⟨_, [], by simp [Value.cells], h, rfl⟩
  case ifc => obtain ⟨p, rfl, _⟩ := h'; simp only [LRel]; exact ⟨_, [], by simp [Value.cells], h, rfl⟩
  case nsl => obtain ⟨_, p, n, c, rfl, _⟩ := h'; simp only [LRel]; exact ⟨_, [], by simp [Value.cells], h, rfl⟩
  case mpr => obtain ⟨p, c, _, rfl⟩ := h'; simp only [LRel]; exact ⟨_, [], by simp [Value.cells], h, rfl⟩
  case er => subst h'; simp only [LRel]; exact ⟨_, [], by cases ‹ErrD› <;> simp [Value.cells, errVal], h, rfl⟩

def spliceV (vs : List Value) (off : Nat) : List Value → List Value
  | [] => vs
  | v :: l => spliceV (vs.set off v) (off + 1) l

theorem splice_rel : ∀ {ds : List AV} {us : List Value} {cs : List AV} {vs : List Value} {off : Nat}, LRel r cs vs → LRel r ds us → LRel r (splice cs off ds) (spliceV vs off us)
  | [], us, cs, vs, off, h, k => by simp only [LRel] at k; subst k; exact h
  | d :: ds, us, cs, vs, off, h, k => by
    simp only [LRel] at k
    obtain ⟨u, us, rfl, h1, h2⟩ := k
    have := splice_rel (off := off + 1) (h.set off h1) h2
    exact this

theorem fold_splice : ∀ (us : List Value) (k off : Nat) (vs : List Value), (us.zipIdx k).foldl (fun (cs : Array Value) (x : Value × Nat) => cs.setIfInBounds (off + x.2) x.1) vs.toArray = (spliceV vs (off + k) us).toArray
  | [], _, _, _ => rfl
  | u :: us, k, off, vs => by
    simp only [List.zipIdx_cons, List.foldl_cons, spliceV]
    rw [List.setIfInBounds_toArray, fold_splice us (k + 1) off]
    rfl

theorem fill_rel {place place' : Nat → Option (Nat × Nat)} (hp : ∀ i p, place i = some p → place' i = some p) {e : Operand → AV} {ρ : Operand → Value} (he : ∀ x, VRel r (e x) (ρ x)) :
    ∀ {parts : List (Nat × Operand)} {cells out : List AV} {vs : List Value}, LRel r cells vs → fillAV place cells (parts.map fun p => (p.1, e p.2)) = some out →
    ∃ us, Instr.fill place' vs.toArray (parts.map fun p => (p.1, ρ p.2)) = some us.toArray ∧ LRel r out us
  | [], cells, out, vs, hl, h => by
    simp [fillAV] at h; subst h
    exact ⟨vs, rfl, hl⟩
  | (i, x) :: parts, cells, out, vs, hl, h => by
    simp only [List.map_cons] at h ⊢
    unfold fillAV at h
    split at h
    · simp at h
    · rename_i off size hpl
      split at h
      · rename_i hsz
        split at h
        · rename_i hle
          have hc := cells_rel (he x) hsz.2
          have hn := hc.length
          simp only [Array.length_toList] at hn
          obtain ⟨us, e1, e2⟩ := fill_rel hp he (splice_rel (off := off) hl hc) h
          refine ⟨us, ?_, e2⟩
          rw [Instr.fill, hp _ _ hpl]
          have hl' := hl.length
          have h1 := hsz.1
          dsimp only
          rw [if_neg (by simp; omega)]
          rw [← e1]
          congr 1
          rw [← Array.foldl_toList, Array.toList_zipIdx]
          exact fold_splice (ρ x).cells.toList 0 off vs
        · simp at h
      · simp at h

end
end Go.Proofs.Pen

namespace Go.Proofs.Pen
open Go

section
variable {P : Program} {w0 : Base P} {w : World} {M S : Nat → Prop} {own ownF : List Blk} {r : Res}

theorem run_places : ∀ {l : List Field} {pl : List (Nat × Nat)}, placesT P l = some pl → (l.mapM fun f => (Prod.mk f.offset <$> sizeOf f.type : Sem (Nat × Nat))).run P w = .ok pl w
  | [], pl, h => by simp [placesT] at h; subst h; simp
  | f :: l, pl, h => by
    unfold placesT at h
    split at h
    · rename_i s q hs hq
      simp at h; subst h
      have ih := run_places (l := l) hq
      simp [List.mapM_cons, run_sizeOf' hs, ih]
    · simp at h

theorem build_gives {t : TypeId} {v : AV} {e : Operand → AV} {ρ : Operand → Value} (he : ∀ x, VRel r (e x) (ρ x)) {parts : Array (Nat × Operand)} (h : (buildAV P t (parts.toList.map fun p => (p.1, e p.2))).run = some v) :
    Gives P (Instr.build t (parts.map fun p => (p.1, ρ p.2))) w (VRel r v) := by
  unfold buildAV at h
  have hparts : (parts.map fun p => (p.1, ρ p.2)).toList = parts.toList.map fun p => (p.1, ρ p.2) := by simp
  split at h
  · rename_i z fs hz hu
    split at h
    · rename_i pl hpl
      have h := run_optT h
      cases hf : fillAV (fun i => pl[i]?) z (parts.toList.map fun p => (p.1, e p.2)) with
      | none => rw [hf] at h; simp at h
      | some out =>
        rw [hf] at h; simp at h; subst h
        obtain ⟨zv, e1, e2, _⟩ := zeroCells_rel (w := w) (r := r) hz
        have hm := run_places (P := P) (w := w) hpl
        obtain ⟨us, k1, k2⟩ := fill_rel (place' := fun i => pl[i]?) (fun i p hp => hp) he e2 hf
        simp only [Array.toArray_toList] at k1
        refine .of (u := .agg us.toArray) ?_ (by simp only [VRel]; exact ⟨_, rfl, k2⟩)
        simp [Instr.build, e1, run_underlying' hu, Array.mapM_eq_mapM_toList, hm, k1]
    · exact (run_fail h).elim
  · rename_i z n el hz hu
    split at h
    · rename_i s hs
      have h := run_optT h
      cases hf : fillAV (fun i => some (i * s, s)) z (parts.toList.map fun p => (p.1, e p.2)) with
      | none => rw [hf] at h; simp at h
      | some out =>
        rw [hf] at h; simp at h; subst h
        obtain ⟨zv, e1, e2, _⟩ := zeroCells_rel (w := w) (r := r) hz
        obtain ⟨us, k1, k2⟩ := fill_rel (place' := fun i => some (i * s, s)) (fun i p hp => hp) he e2 hf
        simp only [Array.toArray_toList] at k1
        refine .of (u := .agg us.toArray) ?_ (by simp only [VRel]; exact ⟨_, rfl, k2⟩)
        simp [Instr.build, e1, run_underlying' hu, run_sizeOf' hs, k1]
    · exact (run_fail h).elim
  · exact (run_fail h).elim

theorem run_bytes {B : Value → ByteArray → Sem (ForInStep ByteArray)} (hB : ∀ n s, (B (.int .u8 n) s).run P w = .ok (.yield (s.push (UInt8.ofNat n.toNat))) w) :
    ∀ (xs : List Int) (acc : ByteArray), (forIn (xs.map fun n => Value.int .u8 n) acc B).run P w = .ok (acc ++ ofBytes xs) w
  | [], acc => by
    have : acc ++ ofBytes [] = acc := by
      apply ByteArray.ext; simp [ofBytes]
    simp [this]
  | x :: xs, acc => by
    have ih := run_bytes hB xs (acc.push (UInt8.ofNat x.toNat))
    simp only [List.map_cons, List.forIn_cons, Sem.run_bind, hB]
    simp only [Result.andThen]
    rw [ih]
    congr 1
    apply ByteArray.ext
    simp [ofBytes]

theorem TRel_bytes {H : Addr → Option Value} {xs : List Int} {p : Option Addr} (h : ElemsAt H (TRel H (.int .u8)) 1 xs p) (ad : Addr) (hp : p = some ad) : CellsAt H ad (xs.map fun n => Value.int .u8 n) := fun j u e => by
  rw [List.getElem?_map] at e
  cases hx : xs[j]? with
  | none => rw [hx] at e; simp at e
  | some x =>
    rw [hx] at e; simp at e; subst e
    obtain ⟨ad', us, h1, h2, h3, h4⟩ := h.at hx
    rw [hp] at h1; cases h1
    simp only [TRel] at h3; subst h3
    have := h4 0 _ rfl
    rwa [add_zero', Nat.mul_one] at this

theorem isU8_some {e : TypeId} (h : isU8 P e = true) : P.underlying e = some (.int .u8) := by
  unfold isU8 at h
  split at h
  · assumption
  · cases h

theorem bytes_gives {src dst e : TypeId} {xs : List Int} {p : Option Addr} {c : Nat} (hu : P.underlying src = some (.slice e)) (hd : P.underlying dst = some .string) (h8 : isU8 P e = true)
    (hc : ∀ ad, p = some ad → CellsIn w ad (xs.map fun n => Value.int .u8 n)) (hn : p = none → xs = []) : (convert src dst (.slice p xs.length c)).run P w = .ok (.string (ofBytes xs)) w := by
  have h8' := isU8_some h8
  cases p with
  | none =>
    have := hn rfl; subst this
    have : ofBytes [] = ByteArray.empty := by apply ByteArray.ext; simp [ofBytes]
    simp [convert, run_underlying' hu, run_underlying' hd, run_underlying' h8', Conv.bytesToString, this]
  | some ad =>
    have h1 := run_loadCells (P := P) (hc ad rfl)
    rw [List.length_map] at h1
    have h2 := fun (B : Value → ByteArray → Sem (ForInStep ByteArray)) hB => run_bytes (P := P) (w := w) (B := B) hB xs ByteArray.empty
    have : ByteArray.empty ++ ofBytes xs = ofBytes xs := by apply ByteArray.ext; simp [ofBytes]
    rw [this] at h2
    simp only [convert, Sem.run_bind, run_underlying' hu, run_underlying' hd, Result.andThen, run_underlying' h8', Conv.bytesToString, h1]
    rw [← Array.forIn_toList]
    rw [h2 _ (fun n s => by simp)]
    simp

theorem conv_gives {src dst : TypeId} {x v : AV} {vx : Value} (hp : ∀ a u, r.H a = some u → w.cell? a = some u) (h : (convAV P src dst x).run = some v) (hx : VRel r x vx) : Gives P (convert src dst vx) w (VRel r v) := by
  unfold convAV at h
  split at h
  · rename_i d k _ n hs hd
    have := run_ret h; subst this
    simp only [VRel] at hx; subst hx
    exact .of (by simp [convert, run_underlying' hs, run_underlying' hd, Conv.intToInt]) (VRel.it r _ _)
  · rename_i d _ n hs hd
    have := run_ret h; subst this
    simp only [VRel] at hx; subst hx
    exact .of (u := .float .f64 (FloatKind.f64.nearest n)) (by simp [convert, run_underlying' hs, run_underlying' hd, Conv.intToFloat]) (by simp only [VRel]; rfl)
  · rename_i d k o hs hd
    obtain ⟨n, hn, h⟩ := run_opt h
    have := run_ret h; subst this
    simp only [VRel] at hx
    unfold f2i at hn
    split at hn
    · simp at hn
    · rename_i x
      simp only [FRel] at hx; subst hx
      split at hn
      · rename_i m hm
        split at hn
        · rename_i hr
          simp at hn; subst hn
          exact .of (by simp [convert, run_underlying' hs, run_underlying' hd, Conv.floatToInt, hm, hr]) (VRel.it r _ _)
        · simp at hn
      · simp at hn
  · rename_i d s hs hd
    have := run_ret h; subst this
    simp only [VRel] at hx; subst hx
    exact .of (by simp [convert, run_underlying' hs, run_underlying' hd]) (VRel.sr r _)
  · rename_i e xs hs hd
    split at h
    · rename_i h8
      have := run_ret h; subst this
      simp only [VRel] at hx
      obtain ⟨p, c, rfl, hc, hE⟩ := hx
      refine .of (bytes_gives (xs := xs) hs hd h8 (fun ad hpa j u e => hp _ _ (TRel_bytes (xs := xs) hE ad hpa j u e)) (fun hpn => ?_)) (VRel.sr r _)
      apply Classical.byContradiction
      intro hne
      obtain ⟨ad, e1, _⟩ := hE hne
      rw [hpn] at e1; cases e1
    · exact (run_fail h).elim
  · rename_i e hs hd
    split at h
    · rename_i h8
      have := run_ret h; subst this
      simp only [VRel] at hx; subst hx
      have := bytes_gives (P := P) (w := w) (xs := []) (p := none) (c := 0) hs hd h8 (fun ad e => by cases e) (fun _ => rfl)
      refine .of this ?_
      have : ofBytes [] = ByteArray.empty := by apply ByteArray.ext; simp [ofBytes]
      simp only [VRel, this]
    · exact (run_fail h).elim
  · exact (run_fail h).elim

end
end Go.Proofs.Pen

namespace Go.Proofs.Pen
open Go

theorem TRel.plain {H : Addr → Option Value} : ∀ {t : Ty} {x : t.den} {vs : List Value}, TRel H t x vs → ∀ u ∈ vs, u.cells = #[u]
  | .int k, x, vs, h, u, hu => by simp only [TRel] at h; subst h; simp at hu; subst hu; rfl
  | .bool, x, vs, h, u, hu => by simp only [TRel] at h; subst h; simp at hu; subst hu; rfl
  | .str, x, vs, h, u, hu => by simp only [TRel] at h; subst h; simp at hu; subst hu; rfl
  | .flt, x, vs, h, u, hu => by
    simp only [TRel] at h; obtain ⟨v, rfl, h⟩ := h; simp at hu; subst hu
    obtain ⟨y, rfl, _⟩ := h.ofBits; rfl
  | .unit, x, vs, h, u, hu => by simp only [TRel] at h; subst h; simp at hu
  | .pair a b, x, vs, h, u, hu => by
    simp only [TRel] at h
    obtain ⟨us, ws, rfl, h1, h2⟩ := h
    simp at hu
    rcases hu with hu | hu
    · exact TRel.plain h1 u hu
    · exact TRel.plain h2 u hu
  | .st a, x, vs, h, u, hu => TRel.plain (t := a) h u hu
  | .sl a, xs, vs, h, u, hu => by simp only [TRel] at h; obtain ⟨p, c, rfl, _⟩ := h; simp at hu; subst hu; rfl
  | .ptr a, x, vs, h, u, hu => by simp only [TRel] at h; obtain ⟨p, us, rfl, _⟩ := h; simp at hu; subst hu; rfl
  | .clo f c, x, vs, h, u, hu => by simp only [TRel] at h; obtain ⟨us, rfl, _⟩ := h; simp at hu; subst hu; rfl
  | .er tf te, x, vs, h, u, hu => by simp only [TRel] at h; subst h; simp at hu; subst hu; cases x <;> rfl
  | .ifi t k, x, vs, h, u, hu => by simp only [TRel] at h; subst h; simp at hu; subst hu; rfl

theorem dec1_sound {r : Res} {t : Ty} {v : AV} {x : t.den} {u : Value} (h : t.dec1 v = some x) (hv : VRel r v u) : TRel r.H t x u.cells.toList := by
  unfold Ty.dec1 at h
  split at h
  · rename_i cs
    split at h
    · rename_i y hd
      simp at h; subst h
      simp only [VRel] at hv
      obtain ⟨vs, rfl, hl⟩ := hv
      obtain ⟨us, ws, rfl, h1, h2⟩ := dec_sound t hl hd
      simp only [LRel] at h2; subst h2
      simpa [Value.cells] using h1
    · simp at h
  · split at h
    · rename_i y hd
      simp at h; subst h
      have hl : LRel r [v] [u] := by simp only [LRel]; exact ⟨u, [], rfl, hv, rfl⟩
      obtain ⟨us, ws, e, h1, h2⟩ := dec_sound t hl hd
      simp only [LRel] at h2; subst h2
      simp at e; subst e
      rw [TRel.plain h1 u (by simp)]
      exact h1
    · simp at h

section
variable {P : Program} {w0 : Base P} {w : World} {M S : Nat → Prop} {own ownF : List Blk} {r : Res}

theorem Rel.alloc (h : Rel w0 M S ownF r w) {id : Nat} {C : Nat × Nat} {k : Blk} {ob : Obj} (hid : ¬ S id) (hk : ownF[id]? = some k)
    (hb : ∀ r' : Res, r.le r' → BRel r' { w with heap := w.heap.push ob } w.heap.size C k) :
    let r' : Res := { r with ι := fun i => if i = id then some (w.heap.size, C) else r.ι i }
    r.le r' ∧ Rel w0 M (fun i => S i ∨ i = id) ownF r' { w with heap := w.heap.push ob } := by
  intro r'
  have hle : r.le r' := ⟨fun a v e => e, fun i p e => by
    show (if i = id then _ else r.ι i) = _
    rw [if_neg (fun hi => by subst hi; rw [h.dom _ hid] at e; cases e)]; exact e⟩
  have hheap : ∀ b, b < w.heap.size → (w.heap.push ob)[b]? = w.heap[b]? := fun b hb => by
    rw [Array.getElem?_push, if_neg (by omega)]
  have hlt : ∀ {b o}, w.heap[b]? = some o → b < w.heap.size := fun e => (Array.getElem?_eq_some_iff.1 e).1
  have hblk : ∀ {b C k}, BRel r w b C k → isLive k = true → b < w.heap.size := fun {b C k} hb hl => by
    cases k with
    | cells cs => obtain ⟨vs, e, fz, h1, _⟩ := hb; exact hlt h1
    | row t xs => obtain ⟨vs, e, fz, h1, _⟩ := hb; exact hlt h1
    | dead => cases hl
    | mp l => obtain ⟨es, c, h1, _⟩ := hb; exact hlt h1
  refine ⟨hle, ?_⟩
  constructor
  · exact h.os
  · exact h.tape
  · exact ⟨h.output.out, h.output.drawn⟩
  · show w0.heap.size ≤ (w.heap.push _).size
    have := h.size; rw [Array.size_push]; omega
  · intro b h1 h2
    have := h.size
    rw [hheap b (by omega)]; exact h.base b h1 h2
  · intro a v e1
    have := h.pers a v e1
    rw [← this]
    refine World.cell?_of_block (hheap _ ?_)
    unfold World.cell? at this
    split at this
    · rename_i c x y hx; exact hlt hx
    · cases this
  · intro i l hs hl hlv
    by_cases hi : i = id
    · subst hi
      rw [hk] at hl; cases hl
      refine .inl ⟨w.heap.size, C, if_pos rfl, hb r' hle, .inr h.size, fun a v e1 e2 => ?_⟩
      have := h.pers a v e1
      unfold World.cell? at this
      rw [e2, Array.getElem?_eq_none (Nat.le_refl _)] at this
      cases this
    · have hs' : S i := by rcases hs with hs | hs; exact hs; exact absurd hs hi
      rcases h.blk i l hs' hl hlv with ⟨b, D, h1, h2, h3⟩ | ⟨h1, h2⟩
      · refine .inl ⟨b, D, (if_neg hi).trans h1, (h2.mono hle).heap (hheap b (hblk h2 hlv)), h3⟩
      · exact .inr ⟨(if_neg hi).trans h1, h2⟩
  · intro i j l m b D D' hsi hsj hl hm hlv hmv e1 e2
    have e1' : (if i = id then some (w.heap.size, C) else r.ι i) = some (b, D) := e1
    have e2' : (if j = id then some (w.heap.size, C) else r.ι j) = some (b, D') := e2
    have lt : ∀ {i l b D}, S i → ownF[i]? = some l → isLive l = true → r.ι i = some (b, D) → b < w.heap.size := fun {i l b D} hs hl hlv e => by
      rcases h.blk i l hs hl hlv with ⟨b', D', h1, h2, _⟩ | ⟨h1, _⟩
      · rw [e] at h1; cases h1; exact hblk h2 hlv
      · rw [e] at h1; cases h1
    by_cases hi : i = id
    · by_cases hj : j = id
      · rw [hi, hj]
      · rw [if_pos hi] at e1'; rw [if_neg hj] at e2'
        cases e1'
        have hsj' : S j := by rcases hsj with h' | h'; exact h'; exact absurd h' hj
        exact absurd (lt hsj' hm hmv e2') (by omega)
    · have hsi' : S i := by rcases hsi with h' | h'; exact h'; exact absurd h' hi
      by_cases hj : j = id
      · rw [if_neg hi] at e1'; rw [if_pos hj] at e2'
        cases e2'
        exact absurd (lt hsi' hl hlv e1') (by omega)
      · rw [if_neg hi] at e1'; rw [if_neg hj] at e2'
        have hsj' : S j := by rcases hsj with h' | h'; exact h'; exact absurd h' hj
        exact h.inj i j l m b D D' hsi' hsj' hl hm hlv hmv e1' e2'
  · intro i hi
    show (if i = id then _ else r.ι i) = none
    rw [if_neg (fun e => hi (.inr e))]
    exact h.dom i fun e => hi (.inl e)
  · exact h.up
  · intro i hz
    obtain ⟨z1, z2⟩ := h.zero i hz
    refine ⟨.inl z1, ?_⟩
    show (if i = id then _ else r.ι i) = none
    rw [if_neg (fun e => by subst e; exact hid z1)]; exact z2
  · exact h.glob

theorem thaw_new (n : Nat) : Thaw (0, 0) n := .inl rfl

end
end Go.Proofs.Pen

namespace Go.Proofs.Pen
open Go

theorem flat_at {α : Type} {s : Nat} : ∀ {uss : List (List α)}, (∀ us ∈ uss, us.length = s) → ∀ {i : Nat} {us : List α}, uss[i]? = some us → ∀ {j : Nat} {u : α}, us[j]? = some u → uss.flatten[i * s + j]? = some u
  | [], _, i, us, h, j, u, hu => by simp at h
  | vs :: uss, hs, i, us, h, j, u, hu => by
    have hv := hs vs (by simp)
    have hj : j < us.length := (List.getElem?_eq_some_iff.1 hu).1
    cases i with
    | zero =>
      simp at h; subst h
      rw [List.flatten_cons, Nat.zero_mul, Nat.zero_add, List.getElem?_append_left hj]; exact hu
    | succ i =>
      simp at h
      rw [List.flatten_cons, List.getElem?_append_right (by rw [hv, Nat.succ_mul]; omega)]
      have := flat_at (fun us hu => hs us (by simp [hu])) h hu
      rw [← this]; congr 1
      rw [hv, Nat.succ_mul]; omega

theorem flat_length {α : Type} {s : Nat} : ∀ {uss : List (List α)}, (∀ us ∈ uss, us.length = s) → uss.flatten.length = uss.length * s
  | [], _ => by simp
  | vs :: uss, hs => by
    have := flat_length (uss := uss) fun us hu => hs us (by simp [hu])
    rw [List.flatten_cons, List.length_append, this, hs vs (by simp), List.length_cons, Nat.succ_mul, Nat.add_comm]

theorem spliceV_eq : ∀ (us vs : List Value) (off : Nat), off + us.length ≤ vs.length → spliceV vs off us = vs.take off ++ us ++ vs.drop (off + us.length)
  | [], vs, off, _ => by simp [spliceV]
  | u :: us, vs, off, h => by
    simp only [List.length_cons] at h
    rw [spliceV, spliceV_eq us (vs.set off u) (off + 1) (by simp; omega)]
    have e1 : (vs.set off u).take (off + 1) = vs.take off ++ [u] := by
      rw [List.take_succ_eq_append_getElem (by simp; omega), List.take_set_of_le (Nat.le_refl _)]
      simp
    have e2 : (vs.set off u).drop (off + 1 + us.length) = vs.drop (off + (us.length + 1)) := by
      rw [List.drop_set_of_lt (by omega)]; congr 1; omega
    rw [e1, e2]
    simp

section
variable {P : Program} {w0 : Base P} {w : World} {M S : Nat → Prop} {own ownF : List Blk} {r : Res}

theorem fill_seq {a : Ty} {e : Operand → AV} {ρ : Operand → Value} (he : ∀ x, VRel r (e x) (ρ x)) : ∀ {parts : List (Nat × Operand)} {j : Nat} {xs : List a.den} {base : List Value},
    elemsAV a (parts.map fun p => (p.1, e p.2)) j = some xs → base.length = (j + parts.length) * a.sz →
    ∃ uss : List (List Value), uss.length = xs.length ∧ xs.length = parts.length ∧ (∀ us ∈ uss, us.length = a.sz) ∧ (∀ (i : Nat) (x : a.den), xs[i]? = some x → ∃ us, uss[i]? = some us ∧ TRel r.H a x us) ∧
      Instr.fill (fun i => some (i * a.sz, a.sz)) base.toArray (parts.map fun p => (p.1, ρ p.2)) = some (base.take (j * a.sz) ++ uss.flatten).toArray
  | [], j, xs, base, h, hb => by
    simp [elemsAV] at h; subst h
    refine ⟨[], rfl, rfl, by simp, by simp, ?_⟩
    simp only [List.map_nil, Instr.fill, List.flatten_nil, List.append_nil]
    rw [List.take_of_length_le (by rw [hb]; simp)]
  | (i, x) :: parts, j, xs, base, h, hb => by
    simp only [List.map_cons, elemsAV] at h
    split at h
    · rename_i hij
      subst hij
      split at h
      · rename_i y ys h1 h2
        simp at h; subst h
        have ht := dec1_sound h1 (he x)
        have hlen := ht.length
        simp only [List.length_cons] at hb
        have hsz : i * a.sz + a.sz ≤ base.length := by rw [hb, ← Nat.succ_mul]; exact Nat.mul_le_mul_right _ (by omega)
        have e1 := spliceV_eq (ρ x).cells.toList base (i * a.sz) (by rw [hlen]; exact hsz)
        have hlen' : (spliceV base (i * a.sz) (ρ x).cells.toList).length = base.length := by
          rw [e1]; simp only [List.length_append, List.length_take, List.length_drop, hlen]; omega
        obtain ⟨uss, k1, k2, k3, k4, k5⟩ := fill_seq he (base := spliceV base (i * a.sz) (ρ x).cells.toList) h2 (by rw [hlen', hb]; congr 1; omega)
        refine ⟨(ρ x).cells.toList :: uss, by simp [k1], by simp [k2], ?_, ?_, ?_⟩
        · intro us hu
          simp at hu
          rcases hu with rfl | hu
          · simpa using hlen
          · exact k3 us hu
        · intro n z hz
          cases n with
          | zero => simp at hz; subst hz; exact ⟨_, rfl, ht⟩
          | succ n => simp at hz; obtain ⟨us, l1, l2⟩ := k4 n z hz; exact ⟨us, by simpa using l1, l2⟩
        · simp only [List.map_cons, Instr.fill]
          simp only [Array.length_toList] at hlen
          rw [if_neg (by simp; omega)]
          rw [← Array.foldl_toList, Array.toList_zipIdx, fold_splice]
          simp only [Nat.add_zero]
          rw [k5]
          congr 2
          rw [List.flatten_cons, ← List.append_assoc]
          congr 1
          rw [e1, Nat.succ_mul]
          have h3 : (base.take (i * a.sz) ++ (ρ x).cells.toList).length = i * a.sz + a.sz := by
            have hl2 : (ρ x).cells.toList.length = a.sz := by rw [Array.length_toList]; exact hlen
            rw [List.length_append, List.length_take, hl2]; omega
          rw [← h3, List.take_left]
      · simp at h
    · simp at h

theorem row_new {a : Ty} {xs : List a.den} {uss : List (List Value)} {e : TypeId} {C : Nat × Nat} (h1 : uss.length = C.1) (hx : xs.length = C.2) (hC : C.2 ≤ C.1) (h3 : ∀ us ∈ uss, us.length = a.sz) (h4 : ∀ (i : Nat) (x : a.den), xs[i]? = some x → ∃ us, uss[i]? = some us ∧ TRel r.H a x us)
    (r' : Res) (hr : r.le r') : BRel r' { w with heap := w.heap.push (.cells uss.flatten.toArray e) } w.heap.size C (.row a xs) := by
  refine ⟨uss.flatten, e, (0, 0), by simp, hx, hC, ?_, thaw_new _, fun i x hi => ?_⟩
  · rw [flat_length h3, h1]; exact Nat.le_refl _
  · obtain ⟨us, k1, k2⟩ := h4 i x hi
    exact ⟨us, h3 us (List.mem_of_getElem? k1), TRel.mono hr.H _ _ _ k2, fun j u hj => flat_at h3 k1 hj⟩

end
end Go.Proofs.Pen

namespace Go.Proofs.Pen
open Go

mutual
theorem noOwn_rel {r r' : Res} (hH : r'.H = r.H) : ∀ (v : AV) (u : Value), noOwn v = true → VRel r v u → VRel r' v u
  | .junk, _, _, _ => by simp [VRel]
  | .undef, _, _, k => by simpa [VRel] using k
  | .tt, _, _, k => by simpa [VRel] using k
  | .ff, _, _, k => by simpa [VRel] using k
  | .bo _, _, _, k => by simpa [VRel] using k
  | .it _ _, _, _, k => by simpa [VRel] using k
  | .sr _, _, _, k => by simpa [VRel] using k
  | .fl _, _, _, k => by simpa [VRel] using k
  | .agg cs, _, n, k => by
    simp only [VRel, noOwn] at k n ⊢
    obtain ⟨vs, e, k⟩ := k
    exact ⟨vs, e, noOwn_relL hH cs vs n k⟩
  | .tup cs, _, n, k => by
    simp only [VRel, noOwn] at k n ⊢
    obtain ⟨vs, e, k⟩ := k
    exact ⟨vs, e, noOwn_relL hH cs vs n k⟩
  | .sl t xs, _, _, k => by simp only [VRel] at k ⊢; rw [hH]; exact k
  | .slx t xs, _, _, k => by simp only [VRel] at k ⊢; rw [hH]; exact k
  | .osl _ _ _ _ _, _, n, _ => by simp [noOwn] at n
  | .ref _ _, _, n, _ => by simp [noOwn] at n
  | .rel _ _ _ _, _, n, _ => by simp [noOwn] at n
  | .ptr cs, _, n, k => by
    simp only [VRel, noOwn] at k n ⊢
    obtain ⟨p, us, e, k1, k2⟩ := k
    exact ⟨p, us, e, noOwn_relL hH cs us n k1, by rw [hH]; exact k2⟩
  | .nilp, _, _, k => by simpa [VRel] using k
  | .nilf, _, _, k => by simpa [VRel] using k
  | .nili, _, _, k => by simpa [VRel] using k
  | .nilsl, _, _, k => by simpa [VRel] using k
  | .hnd _ _, _, _, k => by simpa [VRel] using k
  | .clo f a c, _, n, k => by
    simp only [VRel, noOwn, Bool.and_eq_true] at k n ⊢
    obtain ⟨us, ws, e, k1, k2⟩ := k
    exact ⟨us, ws, e, noOwn_relL hH a us n.1 k1, noOwn_relL hH c ws n.2 k2⟩
  | .ifc t x, _, n, k => by
    simp only [VRel, noOwn] at k n ⊢
    obtain ⟨u, e, k⟩ := k
    exact ⟨u, e, noOwn_rel hH x u n k⟩
  | .when _ _ _, _, n, _ => by simp [noOwn] at n
  | .er _ _ _, _, _, k => by simpa [VRel] using k
  | .nsl b v, u, n, k => by
    simp only [VRel, noOwn] at k n ⊢
    exact ⟨noOwn_rel hH v u n k.1, k.2⟩
  | .mpr _, _, n, _ => by simp [noOwn] at n
theorem noOwn_relL {r r' : Res} (hH : r'.H = r.H) : ∀ (cs : List AV) (vs : List Value), noOwnL cs = true → LRel r cs vs → LRel r' cs vs
  | [], _, _, k => by simpa [LRel] using k
  | c :: cs, _, n, k => by
    simp only [LRel, noOwnL, Bool.and_eq_true] at k n ⊢
    obtain ⟨v, ws, e, k1, k2⟩ := k
    exact ⟨v, ws, e, noOwn_rel hH c v n.1 k1, noOwn_relL hH cs ws n.2 k2⟩
end

mutual
theorem scalar_rel {r r' : Res} : ∀ (v : AV) (u : Value), scalar v = true → VRel r v u → VRel r' v u
  | .junk, _, _, _ => by simp [VRel]
  | .undef, _, _, k => by simpa [VRel] using k
  | .tt, _, _, k => by simpa [VRel] using k
  | .ff, _, _, k => by simpa [VRel] using k
  | .bo _, _, _, k => by simpa [VRel] using k
  | .it _ _, _, _, k => by simpa [VRel] using k
  | .sr _, _, _, k => by simpa [VRel] using k
  | .fl _, _, _, k => by simpa [VRel] using k
  | .agg cs, _, n, k => by
    simp only [VRel, scalar] at k n ⊢
    obtain ⟨vs, e, k⟩ := k
    exact ⟨vs, e, scalar_relL cs vs n k⟩
  | .tup cs, _, n, k => by
    simp only [VRel, scalar] at k n ⊢
    obtain ⟨vs, e, k⟩ := k
    exact ⟨vs, e, scalar_relL cs vs n k⟩
  | .sl t xs, _, n, k => by simp [scalar] at n
  | .slx t xs, _, n, k => by simp [scalar] at n
  | .osl _ _ _ _ _, _, n, _ => by simp [scalar] at n
  | .ref _ _, _, n, _ => by simp [scalar] at n
  | .rel _ _ _ _, _, n, _ => by simp [scalar] at n
  | .ptr cs, _, n, k => by simp [scalar] at n
  | .nilp, _, _, k => by simpa [VRel] using k
  | .nilf, _, _, k => by simpa [VRel] using k
  | .nili, _, _, k => by simpa [VRel] using k
  | .nilsl, _, _, k => by simpa [VRel] using k
  | .hnd _ _, _, _, k => by simpa [VRel] using k
  | .clo f a c, _, n, k => by
    simp only [VRel, scalar, Bool.and_eq_true] at k n ⊢
    obtain ⟨us, ws, e, k1, k2⟩ := k
    exact ⟨us, ws, e, scalar_relL a us n.1 k1, scalar_relL c ws n.2 k2⟩
  | .ifc t x, _, n, k => by
    simp only [VRel, scalar] at k n ⊢
    obtain ⟨u, e, k⟩ := k
    exact ⟨u, e, scalar_rel x u n k⟩
  | .when _ _ _, _, n, _ => by simp [scalar] at n
  | .er _ _ _, _, _, k => by simpa [VRel] using k
  | .nsl b v, u, n, k => by
    simp only [VRel, scalar] at k n ⊢
    exact ⟨scalar_rel v u n k.1, k.2⟩
  | .mpr _, _, n, _ => by simp [scalar] at n
theorem scalar_relL {r r' : Res} : ∀ (cs : List AV) (vs : List Value), scalarL cs = true → LRel r cs vs → LRel r' cs vs
  | [], _, _, k => by simpa [LRel] using k
  | c :: cs, _, n, k => by
    simp only [LRel, scalarL, Bool.and_eq_true] at k n ⊢
    obtain ⟨v, ws, e, k1, k2⟩ := k
    exact ⟨v, ws, e, scalar_rel c v n.1 k1, scalar_relL cs ws n.2 k2⟩
end

def Res.all (w : World) : Res := { H := w.cell?, ι := fun _ => none }

def Shown (own : List Blk) (r : Res) (w : World) (rb : Res) : Prop := ∀ id k b C, own[id]? = some k → isLive k = true → r.ι id = some (b, C) → ∀ o v, w.cell? ⟨b, o, none⟩ = some v → rb.H ⟨b, o, none⟩ = some v

section
variable {P : Program} {w0 : Base P} {w : World} {M S : Nat → Prop} {own ownF : List Blk} {r rb : Res}

mutual
theorem frzW_rel (hR : Rel w0 M S ownF r w) (ha : Agree own ownF) (hp : ∀ a v, r.H a = some v → rb.H a = some v) (ho : Shown ownF r w rb) {g : Nat → Nat → AV} (hg : ∀ id off u, VRel r (.ref id off) u → VRel rb (g id off) u) : ∀ (v : AV) (u : Value), VRel r v u → VRel rb (AV.frzW own g v) u
  | .junk, _, _ => by simp [AV.frzW, VRel]
  | .undef, _, k => by simpa [AV.frzW, VRel] using k
  | .tt, _, k => by simpa [AV.frzW, VRel] using k
  | .ff, _, k => by simpa [AV.frzW, VRel] using k
  | .bo _, _, k => by simpa [AV.frzW, VRel] using k
  | .it _ _, _, k => by simpa [AV.frzW, VRel] using k
  | .sr _, _, k => by simpa [AV.frzW, VRel] using k
  | .fl _, _, k => by simpa [AV.frzW, VRel] using k
  | .agg cs, _, k => by
    simp only [AV.frzW, VRel] at k ⊢
    obtain ⟨vs, e, k⟩ := k
    exact ⟨vs, e, frzL_rel hR ha hp ho hg cs vs k⟩
  | .tup cs, _, k => by
    simp only [AV.frzW, VRel] at k ⊢
    obtain ⟨vs, e, k⟩ := k
    exact ⟨vs, e, frzL_rel hR ha hp ho hg cs vs k⟩
  | .sl t xs, _, k => by
    simp only [AV.frzW, VRel] at k ⊢
    obtain ⟨p, c, e, l, k⟩ := k
    exact ⟨p, c, e, l, k.mono hp (TRel.mono hp t)⟩
  | .slx t xs, _, k => by
    simp only [AV.frzW, VRel] at k ⊢
    obtain ⟨p, e, k⟩ := k
    exact ⟨p, e, k.mono hp (TRel.mono hp t)⟩
  | .osl t id off len cap, u, k => by
    simp only [AV.frzW]
    split
    · rename_i t' xs hrow
      split
      · rename_i ht; subst ht
        simp only [VRel] at k ⊢
        obtain ⟨p, c, rfl, hl, _, hp⟩ := k
        rcases hp with ⟨rfl, rfl⟩ | ⟨b, C, hi, rfl, h1, h2⟩
        · refine ⟨p, 0, by simp, by simp, fun hn => absurd (by simp) hn⟩
        · obtain ⟨e1, e2⟩ := hR.row ha hrow hi
          have e3 : (castSl rfl xs).length = xs.length := rfl
          have hlen : (((castSl rfl xs).drop off).take len).length = len := by
            rw [List.length_take, List.length_drop, e3]; omega
          refine ⟨_, c, by rw [hlen], by rw [hlen]; exact hl, fun _ => ⟨_, rfl, fun i x hx => ?_⟩⟩
          rw [List.getElem?_take] at hx
          split at hx
          · rw [List.getElem?_drop] at hx
            obtain ⟨us, k1, k2, k3⟩ := e2 (off + i) x hx
            refine ⟨us, k1, TRel.mono hp _ _ _ k2, ?_⟩
            rw [add_none, ← Nat.add_mul]
            exact fun j u e => by
              have := k3 j u e
              rw [add_none] at this ⊢
              exact ho _ _ _ _ (rowAt_live ha hrow rfl) rfl hi _ _ this
          · simp at hx
      · simp [VRel]
    · simp [VRel]
  | .ref id off, u, k => by simp only [AV.frzW]; exact hg id off u k
  | .rel _ _ _ _, _, _ => by simp [AV.frzW, VRel]
  | .ptr cs, _, k => by
    simp only [AV.frzW, VRel] at k ⊢
    obtain ⟨p, us, e, k1, k2⟩ := k
    exact ⟨p, us, e, frzL_rel hR ha hp ho hg cs us k1, k2.mono hp⟩
  | .nilp, _, k => by simpa [AV.frzW, VRel] using k
  | .nilf, _, k => by simpa [AV.frzW, VRel] using k
  | .nili, _, k => by simpa [AV.frzW, VRel] using k
  | .nilsl, _, k => by simpa [AV.frzW, VRel] using k
  | .hnd _ _, _, k => by simpa [AV.frzW, VRel] using k
  | .clo f a c, _, k => by
    simp only [AV.frzW, VRel] at k ⊢
    obtain ⟨us, ws, e, k1, k2⟩ := k
    exact ⟨us, ws, e, frzL_rel hR ha hp ho hg a us k1, frzL_rel hR ha hp ho hg c ws k2⟩
  | .ifc t x, _, k => by
    simp only [AV.frzW, VRel] at k ⊢
    obtain ⟨u, e, k⟩ := k
    exact ⟨u, e, frzW_rel hR ha hp ho hg x u k⟩
  | .when _ _ _, _, _ => by simp [AV.frzW, VRel]
  | .er _ _ _, _, k => by simpa [AV.frzW, VRel] using k
  | .nsl b v, u, k => by
    simp only [VRel] at k
    simp only [AV.frzW]
    exact frzW_rel hR ha hp ho hg v u k.1
  | .mpr _, _, _ => by simp [AV.frzW, VRel]
theorem frzL_rel (hR : Rel w0 M S ownF r w) (ha : Agree own ownF) (hp : ∀ a v, r.H a = some v → rb.H a = some v) (ho : Shown ownF r w rb) {g : Nat → Nat → AV} (hg : ∀ id off u, VRel r (.ref id off) u → VRel rb (g id off) u) : ∀ (cs : List AV) (vs : List Value), LRel r cs vs → LRel rb (AV.frzL own g cs) vs
  | [], _, k => by simpa [AV.frzL, LRel] using k
  | c :: cs, _, k => by
    simp only [AV.frzL, LRel] at k ⊢
    obtain ⟨v, ws, e, k1, k2⟩ := k
    exact ⟨v, ws, e, frzW_rel hR ha hp ho hg c v k1, frzL_rel hR ha hp ho hg cs ws k2⟩
end

theorem LRel.map' {r r' : Res} {f : AV → AV} (hf : ∀ v u, VRel r v u → VRel r' (f v) u) : ∀ {cs : List AV} {vs : List Value}, LRel r cs vs → LRel r' (cs.map f) vs
  | [], _, k => by simpa [LRel] using k
  | c :: cs, _, k => by
    simp only [List.map_cons, LRel] at k ⊢
    obtain ⟨v, ws, e, k1, k2⟩ := k
    exact ⟨v, ws, e, hf c v k1, LRel.map' hf k2⟩

theorem frz_rel (hR : Rel w0 M S ownF r w) (ha : Agree own ownF) (hp : ∀ a v, r.H a = some v → rb.H a = some v) (ho : Shown ownF r w rb) : ∀ (n : Nat) (v : AV) (u : Value), VRel r v u → VRel rb (AV.frz own n v) u
  | 0, v, u, k => frzW_rel hR ha hp ho (fun _ _ _ _ => by simp [VRel]) v u k
  | n + 1, v, u, k => frzW_rel hR ha hp ho (fun id off u k => by
      try dsimp only
      split
      · rename_i cs hc
        simp only [VRel] at k ⊢
        obtain ⟨b, C, hi, rfl⟩ := k
        obtain ⟨vs, k1, k2⟩ := hR.cells ha hc hi
        refine ⟨_, vs.drop off, rfl, LRel.map' (frz_rel hR ha hp ho n) (k2.drop off), ?_⟩
        have := k1.drop off
        rw [add_none, Nat.zero_add] at this
        exact fun j u e => by
          have := this j u e
          rw [add_none] at this ⊢
          exact ho _ _ _ _ (rowAt_live ha hc rfl) rfl hi _ _ this
      · simp [VRel]) v u k

end
end Go.Proofs.Pen

namespace Go.Proofs.Pen
open Go RowKit

def FnAt (P : Program) (g : Nat) (args : List AV) (v : AV) : Prop :=
  callable P g = true ∧ ∀ (r : Res) (w : World) (us : List Value), (∀ i, r.ι i = none) → (∀ a u, r.H a = some u → w.cell? a = some u) → (∀ a u, globOf P a = some u → r.H a = some u) → LRel r args us →
    Calls P g us.toArray w fun e w' => ∃ u r', e = .returned u ∧ r.le r' ∧ Below w.heap.size w w' ∧ (∀ a x, r'.H a = some x → w'.cell? a = some x) ∧
      (∀ a x, r'.H a = some x → r.H a = some x ∨ w.heap.size ≤ a.block) ∧ (∀ i, r'.ι i = none) ∧ VRel r' v u

def ExAt (P : Program) (g : Nat) (args : List AV) (v : AV) : Prop :=
  ∀ (r : Res) (w : World) (us : List Value), LRel r args us → ∃ u w', (callFunc g us.toArray).run P w = .ok (.value u) w' ∧ Same w w' ∧ VRel r v u

def QuietOK (P : Program) (q : Nat → List AV → T AV) : Prop := ∀ g args v, (q g args).run = some v → FnAt P g args v ∨ ExAt P g args v

def Yields (P : Program) (o : Oper) (a : Act) (w : World) (R : Value → World → Prop) : Prop :=
  ∀ (K : Act → World → Prop) (Q : Exit → Act → World → Prop), (∀ u w', R u w' → K (a.put o.dst u) w') → o.wp P a w K Q

theorem Yields.value {P : Program} {o : Oper} {a : Act} {w w' : World} {R : Value → World → Prop} {u : Value} (h : (execOp a.eval o).run P w = .ok (.value u) w') (hR : R u w') : Yields P o a w R := by
  intro K Q hK
  unfold Oper.wp
  rw [h, Oper.upon_value]
  exact hK u w' hR
theorem Yields.skip {P : Program} {o : Oper} {a : Act} {w w' : World} {R : Value → World → Prop} (h : (execOp a.eval o).run P w = .ok .skip w') (hR : R Go.undef w') : Yields P o a w R := by
  intro K Q hK
  unfold Oper.wp
  rw [h, Oper.upon_skip]
  exact hK _ w' hR
theorem Yields.call {P : Program} {o : Oper} {a : Act} {w w' : World} {R : Value → World → Prop} {f : FuncId} {args : Array Value} (h : (execOp a.eval o).run P w = .ok (.enter f args) w')
    (hc : Calls P f args w' fun e w'' => ∃ u, e = .returned u ∧ R u w'') : Yields P o a w R := by
  intro K Q hK
  unfold Oper.wp
  rw [h, Oper.upon_enter]
  exact hc.mono fun e w'' ⟨u, he, hR⟩ => by subst he; exact hK u w'' hR
theorem Yields.mono {P : Program} {o : Oper} {a : Act} {w : World} {R R' : Value → World → Prop} (h : Yields P o a w R) (k : ∀ u w', R u w' → R' u w') : Yields P o a w R' :=
  fun K Q hK => h K Q fun u w' hR => hK u w' (k u w' hR)

theorem Yields.gives {P : Program} {o : Oper} {a : Act} {w : World} {s : Sem Value} {R : Value → Prop} {R' : Value → World → Prop} (h : (execOp a.eval o) = (do let u ← s; pure (.value u))) (hs : Gives P s w R)
    (k : ∀ u w', Same w w' → R u → R' u w') : Yields P o a w R' := by
  obtain ⟨u, w', e, hw, hR⟩ := hs
  exact .value (w' := w') (u := u) (by rw [h]; simp [e]) (k u w' hw hR)

theorem Rel.congr {P : Program} {w0 : Base P} {w : World} {M S S' : Nat → Prop} {own : List Blk} {r : Res} (h : Rel w0 M S own r w) (k : ∀ i, S i ↔ S' i) : Rel w0 M S' own r w := by
  have : S = S' := funext fun i => propext (k i)
  rw [← this]; exact h

section
variable {P : Program} {w0 : Base P} {w : World} {M S : Nat → Prop} {own ownF : List Blk} {r : Res}

theorem Rel.below (h : Rel w0 M S ownF r w) {w' : World} (hb : Below w.heap.size w w') {H' : Addr → Option Value} (h1 : ∀ a v, r.H a = some v → H' a = some v) (h2 : ∀ a v, H' a = some v → w'.cell? a = some v)
    (h3 : ∀ a v, H' a = some v → r.H a = some v ∨ w.heap.size ≤ a.block) : Rel w0 M S ownF { H := H', ι := r.ι } w' := by
  have hlt : ∀ {b o}, w.heap[b]? = some o → b < w.heap.size := fun e => (Array.getElem?_eq_some_iff.1 e).1
  have hblk : ∀ {b C k}, BRel r w b C k → isLive k = true → b < w.heap.size := fun {b C k} hb hl => by
    cases k with
    | cells cs => obtain ⟨vs, e, fz, h1, _⟩ := hb; exact hlt h1
    | row t xs => obtain ⟨vs, e, fz, h1, _⟩ := hb; exact hlt h1
    | dead => cases hl
    | mp l => obtain ⟨es, c, h1, _⟩ := hb; exact hlt h1
  have hle : r.le { H := H', ι := r.ι } := ⟨h1, fun _ _ e => e⟩
  constructor
  · exact hb.os.trans h.os
  · exact hb.tape.trans h.tape
  · exact hb.output.trans h.output
  · exact Nat.le_trans h.size hb.size
  · intro b k1 k2
    have := h.size
    rw [hb.block b (by omega)]; exact h.base b k1 k2
  · exact h2
  · intro id k hs hk hl
    rcases h.blk id k hs hk hl with ⟨b, C, e1, e2, e3, e4⟩ | ⟨e1, e2⟩
    · have hbl := hblk e2 hl
      refine .inl ⟨b, C, e1, (e2.mono hle).heap (hb.block b hbl), e3, fun a v e => ?_⟩
      rcases h3 a v e with e | e
      · exact e4 a v e
      · omega
    · exact .inr ⟨e1, e2⟩
  · exact h.inj
  · exact h.dom
  · intro a v e
    rcases h3 a v e with e | e
    · exact h.up a v e
    · exact .inr (.inl (Nat.le_trans h.size e))
  · exact h.zero
  · exact fun a v e => h1 a v (h.glob a v e)

end
end Go.Proofs.Pen

namespace Go.Proofs.Pen
open Go RowKit

def QuietAt (P : Program) (own : List Blk) (e : Operand → AV) (o : Oper) (v : AV) (own' : List Blk) : Prop :=
  (∃ blks, own' = own ++ blks) ∧ ∀ (w0 : Base P) (M S : Nat → Prop) (ownF : List Blk) (r : Res) (w : World) (a : Act), Agree own' ownF → (∀ i, own.length ≤ i → i < own'.length → ¬ S i) → Rel w0 M S ownF r w →
    (∀ x, VRel r (e x) (a.eval x)) → (∀ x n, litInt x = some n → ∃ k, e x = .it k n) →
    Yields P o a w fun u w' => ∃ r', r.le r' ∧ Rel w0 M (fun i => S i ∨ (own.length ≤ i ∧ i < own'.length)) ownF r' w' ∧ VRel r' v u

section
variable {P : Program} {own own' : List Blk} {e : Operand → AV} {o : Oper} {v : AV}

theorem run_v {t : T AV} (h : (t.bind fun x => T.ret (x, own)).run = some (v, own')) : t.run = some v ∧ own' = own := by
  obtain ⟨x, h1, h2⟩ := run_bind h
  have := run_ret h2
  cases this
  exact ⟨h1, rfl⟩

theorem QuietAt.read (s : (Operand → Value) → Sem Value) (he : ∀ a : Act, execOp a.eval o = (do let u ← s a.eval; pure (.value u)))
    (hs : ∀ (w0 : Base P) (M S : Nat → Prop) (ownF : List Blk) (r : Res) (w : World) (a : Act), Agree own ownF → Rel w0 M S ownF r w → (∀ x, VRel r (e x) (a.eval x)) → (∀ x n, litInt x = some n → ∃ k, e x = .it k n) →
      Gives P (s a.eval) w (VRel r v)) : QuietAt P own e o v own := by
  refine ⟨⟨[], by simp⟩, fun w0 M S ownF r w a ha _ hR hx hl => ?_⟩
  refine Yields.gives (he a) (hs w0 M S ownF r w a ha hR hx hl) fun u w' hw hu => ⟨r, .refl r, (hR.same hw).congr fun i => ⟨.inl, fun h => ?_⟩, hu⟩
  rcases h with h | h
  · exact h
  · omega

theorem QuietAt.makeD {b : Blk} (C : (Operand → Value) → World → Nat × Nat)
    (hs : ∀ (w0 : Base P) (M S : Nat → Prop) (ownF : List Blk) (r : Res) (w : World) (a : Act), Agree own ownF → Rel w0 M S ownF r w → (∀ x, VRel r (e x) (a.eval x)) → (∀ x n, litInt x = some n → ∃ k, e x = .it k n) →
      ∃ (ob : Obj) (w' : World) (u : Value), (execOp a.eval o).run P w = .ok (.value u) w' ∧ Same { w with heap := w.heap.push ob } w' ∧
        (∀ r' : Res, r.le r' → BRel r' { w with heap := w.heap.push ob } w.heap.size (C a.eval w) b) ∧ ∀ r' : Res, r'.ι own.length = some (w.heap.size, C a.eval w) → VRel r' v u) : QuietAt P own e o v (own ++ [b]) := by
  refine ⟨⟨[b], rfl⟩, fun w0 M S ownF r w a ha hS hR hx hl => ?_⟩
  have ha' : Agree own ownF := fun i hi => by
    rw [ha i (by simp; omega), List.getElem?_append_left hi]
  obtain ⟨ob, w', u, h1, hw, h2, h3⟩ := hs w0 M S ownF r w a ha' hR hx hl
  have hk : ownF[own.length]? = some b := by rw [ha own.length (by simp)]; simp
  have hn := hS own.length (Nat.le_refl _) (by simp)
  obtain ⟨k1, k2⟩ := hR.alloc hn hk h2
  refine .value h1 ⟨_, k1, (k2.same hw).congr fun i => ?_, h3 _ (if_pos rfl)⟩
  simp only [List.length_append, List.length_cons, List.length_nil]
  constructor
  · rintro (h | rfl)
    · exact .inl h
    · exact .inr ⟨Nat.le_refl _, by omega⟩
  · rintro (h | h)
    · exact .inl h
    · exact .inr (by omega)

theorem QuietAt.make {b : Blk} (C : Nat × Nat)
    (hs : ∀ (w0 : Base P) (M S : Nat → Prop) (ownF : List Blk) (r : Res) (w : World) (a : Act), Agree own ownF → Rel w0 M S ownF r w → (∀ x, VRel r (e x) (a.eval x)) → (∀ x n, litInt x = some n → ∃ k, e x = .it k n) →
      ∃ (cs : Array Value) (t : TypeId) (u : Value), (execOp a.eval o).run P w = .ok (.value u) { w with heap := w.heap.push (.cells cs t) } ∧
        (∀ r' : Res, r.le r' → BRel r' { w with heap := w.heap.push (.cells cs t) } w.heap.size C b) ∧ ∀ r' : Res, r'.ι own.length = some (w.heap.size, C) → VRel r' v u) : QuietAt P own e o v (own ++ [b]) :=
  QuietAt.makeD (fun _ _ => C) fun w0 M S ownF r w a ha hR hx hl => by
    obtain ⟨cs, t, u, h1, h2, h3⟩ := hs w0 M S ownF r w a ha hR hx hl
    exact ⟨_, _, u, h1, .refl _, h2, h3⟩

theorem orel {r : Res} {e : Operand → AV} {ρ : Operand → Value} (he : ∀ x, VRel r (e x) (ρ x)) (x : Option Operand) : ORel r (x.map e) (x.map ρ) := by
  cases x with
  | none => trivial
  | some x => exact he x

theorem lrel {r : Res} {e : Operand → AV} {ρ : Operand → Value} (he : ∀ x, VRel r (e x) (ρ x)) (l : List Operand) : LRel r (l.map e) (l.map ρ) := LRel.map e ρ l fun x _ => he x

end
end Go.Proofs.Pen

namespace Go.Proofs.Pen
open Go RowKit

def setBlk (w : World) (b : Nat) (o : Obj) : World := { w with heap := w.heap.setIfInBounds b o }

theorem setBlk_at {w : World} {b : Nat} {o p : Obj} (h : w.heap[b]? = some p) : (setBlk w b o).heap[b]? = some o := by
  have : b < w.heap.size := (Array.getElem?_eq_some_iff.1 h).1
  simp [setBlk, this]
theorem setBlk_other {w : World} {b c : Nat} {o : Obj} (h : c ≠ b) : (setBlk w b o).heap[c]? = w.heap[c]? := by
  simp only [setBlk, Array.getElem?_setIfInBounds]
  rw [if_neg (fun e => h e.symm)]

section
variable {P : Program} {w0 : Base P} {w : World} {M S : Nat → Prop} {own : List Blk} {r : Res}

theorem Rel.writeS (h : Rel w0 M S own r w) {id b : Nat} {C : Nat × Nat} {k k' : Blk} {o : Obj} (hs : S id) (hk : own[id]? = some k) (hl : isLive k = true) (hι : r.ι id = some (b, C)) (hb : BRel r (setBlk w b o) b C k') :
    Rel w0 M S (own.set id k') r (setBlk w b o) := by
  have hid : id < own.length := (List.getElem?_eq_some_iff.1 hk).1
  obtain ⟨hm, hsep⟩ : (M b ∨ w0.heap.size ≤ b) ∧ ∀ a v, r.H a = some v → a.block ≠ b := by
    rcases h.blk id k hs hk hl with ⟨b', C', e1, _, e2, e3⟩ | ⟨e1, _⟩
    · rw [hι] at e1; cases e1; exact ⟨e2, e3⟩
    · rw [hι] at e1; cases e1
  have hlive : ∀ {j l}, (own.set id k')[j]? = some l → isLive l = true → j ≠ id → own[j]? = some l := fun {j l} e _ hj => by
    rwa [List.getElem?_set_ne (fun e => hj e.symm)] at e
  constructor
  · exact h.os
  · exact h.tape
  · exact ⟨h.output.out, h.output.drawn⟩
  · show w0.heap.size ≤ (w.heap.setIfInBounds b o).size
    simpa using h.size
  · intro c h1 h2
    have : c ≠ b := fun e => by subst e; rcases hm with hm | hm; exact h2 hm; omega
    rw [setBlk_other this]; exact h.base c h1 h2
  · intro a v e
    rw [← h.pers a v e]
    exact World.cell?_of_block (setBlk_other (hsep a v e))
  · intro j l hsj hj hlv
    by_cases hji : j = id
    · subst hji
      have : l = k' := by rw [List.getElem?_set_self hid] at hj; exact (Option.some.inj hj).symm
      subst this
      exact .inl ⟨b, C, hι, hb, hm, hsep⟩
    · have hj' := hlive hj hlv hji
      rcases h.blk j l hsj hj' hlv with ⟨b', C', e1, e2, e3⟩ | h'
      · have hne : b' ≠ b := fun e => by subst e; exact hji (h.inj j id l k b' C' C hsj hs hj' hk hlv hl e1 hι)
        exact .inl ⟨b', C', e1, e2.heap (setBlk_other hne), e3⟩
      · exact .inr h'
  · intro i j l m c D D' hsi hsj hi hj hli hlj e1 e2
    have key : ∀ {n x}, (own.set id k')[n]? = some x → isLive x = true → ∃ y, own[n]? = some y ∧ isLive y = true := fun {n x} hn hx => by
      by_cases hni : n = id
      · subst hni; exact ⟨k, hk, hl⟩
      · exact ⟨x, hlive hn hx hni, hx⟩
    obtain ⟨l', hi', hli'⟩ := key hi hli
    obtain ⟨m', hj', hlj'⟩ := key hj hlj
    exact h.inj i j l' m' c D D' hsi hsj hi' hj' hli' hlj' e1 e2
  · exact h.dom
  · exact h.up
  · exact h.zero
  · exact h.glob


theorem Rel.mark (h : Rel w0 M S own r w) {id b : Nat} {C : Nat × Nat} {t : Ty} {xs : List t.den} (hs : S id) (hk : own[id]? = some (.row t xs)) (hι : r.ι id = some (b, C)) :
    ∃ el n, w.shape? b = some (el, n) ∧ Rel w0 M S own r (w.freeze ⟨b, n, none⟩ 1) := by
  rcases h.blk id _ hs hk rfl with ⟨b', C', e1, hb, _⟩ | ⟨e1, _⟩
  · rw [hι] at e1; cases e1
    obtain ⟨vs, el, fz, k1, k2, k3, k4, k5, k6⟩ := hb
    refine ⟨el, vs.length, by unfold World.shape?; rw [k1]; simp, ?_⟩
    have hw : w.freeze ⟨b, vs.length, none⟩ 1 = setBlk w b (.cells vs.toArray el (if fz.1 == fz.2 then (vs.length, vs.length + 1) else (min fz.1 vs.length, max fz.2 (vs.length + 1)))) := by
      unfold World.freeze setBlk
      rw [if_neg (by decide)]
      congr 1
      apply Array.ext
      · simp
      · intro i h1 h2
        have hlt := (Array.getElem?_eq_some_iff.1 k1).1
        simp only [Array.getElem_modify]
        by_cases e : b = i
        · subst e
          have : w.heap[b] = .cells vs.toArray el fz := (Array.getElem?_eq_some_iff.1 k1).2
          simp [this]
        · simp only [e, if_false]
          rw [Array.getElem_setIfInBounds_ne (by simpa using h2) e]
    rw [hw]
    have := h.writeS (k' := .row t xs) (o := .cells vs.toArray el (if fz.1 == fz.2 then (vs.length, vs.length + 1) else (min fz.1 vs.length, max fz.2 (vs.length + 1)))) hs hk rfl hι ⟨vs, el, _, setBlk_at k1, k2, k3, k4, ?_, k6⟩
    · have e : own.set id (.row t xs) = own := by
        apply List.ext_getElem?
        intro i
        by_cases hi : i = id
        · subst hi
          rw [List.getElem?_set_self (List.getElem?_eq_some_iff.1 hk).1, hk]
        · rw [List.getElem?_set_ne (fun e => hi e.symm)]
      rw [e] at this; exact this
    · split
      · exact .inr (Nat.le_refl _)
      · rename_i hne
        rcases k5 with k5 | k5
        · exact absurd (by simpa using k5) hne
        · exact .inr (by simp only; omega)
  · rw [hι] at e1; cases e1

end
end Go.Proofs.Pen
