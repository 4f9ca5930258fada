/- A part of the proof that the law HitVisits is true of every input: models of the functions that the law reaches, and what holds of them. -/
import Derived.Test.YtncgifjccpngfaaGreatPenKit0
import Derived.Test.YtncgifjccpngfaaGreatPenKit1
import Derived.Test.YtncgifjccpngfaaGreatPenKit2
import Derived.Test.YtncgifjccpngfaaGreatPenKit3
namespace Go.Proofs.Pen
open Go Go.Proofs

noncomputable def fz (n : Int) : Option Nat := fop BinOp.quo (some (FloatKind.f64.nearest n)) (some 4652218415073722368)

theorem iter_count {σ : Type} {t : σ → T (Ex × σ)} (st : Nat → σ) {e : Ex} {z : σ} (he : e ≠ .normal) : ∀ (n k m : Nat), (∀ i, k ≤ i → i < k + n → (t (st i)).run = some (.normal, st (i + 1))) → (t (st (k + n))).run = some (e, z) → n < m → (iterT t m (st k)).run = some (e, z)
  | n, k, 0, _, _, hm => absurd hm (Nat.not_lt_zero _)
  | 0, k, m + 1, _, h2, _ => by
    rw [Nat.add_zero] at h2
    rw [iter_step h2]
    cases e <;> first | rfl | exact absurd rfl he
  | n + 1, k, m + 1, h1, h2, hm => by
    rw [iter_step (h1 k (Nat.le_refl _) (by omega))]
    exact iter_count st he n (k + 1) m (fun i a b => h1 i (by omega) (by omega)) (by rw [show k + 1 + n = k + (n + 1) by omega]; exact h2) (by omega)

theorem lget_nat {α : Type} (l : List α) {k : Nat} (h : k < l.length) : lget l (k : Int) = some l[k] := by
  unfold lget
  rw [if_neg (by omega), Int.toNat_natCast, List.getElem?_eq_getElem h]

theorem take_all {α : Type} (l : List α) (v : α) : List.take (l.length + 1) (List.take l.length l ++ [v]) = l ++ [v] := by
  rw [List.take_length, List.take_of_length_le (by simp)]

theorem map_take {α β : Type} (f : α → β) (l : List α) {k : Nat} (h : k < l.length) : (l.take (k + 1)).map f = (l.take k).map f ++ [f l[k]] := by
  rw [List.take_succ_eq_append_getElem h, List.map_append]; rfl

theorem W_succ {k : Nat} (h : k < 1000) : W ((k : Int) + 1) = ((k + 1 : Nat) : Int) := by
  rw [W_id (by omega) (by omega)]; omega

theorem room {n c : Nat} (h : n < 1000) (hc : c ≤ 1000) : (n + 1) * c ≤ most := by
  have : (n + 1) * c ≤ 1000 * 1000 := Nat.mul_le_mul (by omega) hc
  unfold most; omega
end Go.Proofs.Pen

namespace Go.Proofs.Pen
open Go Go.Proofs

abbrev FF : Ieee.Format := FloatKind.f64.format
theorem ff_binade : FF.binade = 4503599627370496 := by decide +kernel
theorem ff_lp : FF.leastPlace = -1074 := by decide +kernel
theorem ff_inf : FF.infRung = 9218868437227405312 := by decide +kernel
theorem ff_sw : FF.signWeight = 9223372036854775808 := by decide +kernel
structure Can (m : Nat) (p : Int) : Prop where
  pos : 0 < m
  lt : m < 9007199254740992
  ge : -1074 ≤ p
  nrm : 4503599627370496 ≤ m ∨ p = -1074

theorem two52 : (2 : Nat) ^ 52 = 4503599627370496 := by decide
theorem two53 : (2 : Nat) ^ 53 = 9007199254740992 := by decide

theorem log2_shift {m : Nat} (h0 : 0 < m) (k : Nat) : (m * 2 ^ k).log2 = m.log2 + k := by
  have hp : 0 < 2 ^ k := Nat.two_pow_pos k
  have hne : m * 2 ^ k ≠ 0 := Nat.mul_ne_zero (by omega) (by omega)
  rw [Nat.log2_eq_iff hne]
  have h1 : 2 ^ m.log2 ≤ m := Nat.log2_self_le (by omega)
  have h2 : m < 2 ^ (m.log2 + 1) := Nat.lt_log2_self
  constructor
  · rw [Nat.pow_add]; exact Nat.mul_le_mul_right _ h1
  · rw [show m.log2 + k + 1 = (m.log2 + 1) + k by omega, Nat.pow_add]
    exact Nat.mul_lt_mul_of_pos_right h2 hp

theorem word_parts (s : Bool) {r : Nat} (h : r < 9223372036854775808) : (FF.word s r / FF.signWeight % 2 == 1) = s ∧ FF.word s r % FF.signWeight = r := by
  rw [ff_sw]
  unfold Ieee.Format.word
  rw [ff_sw]
  cases s with
  | false =>
    simp only [Bool.false_eq_true, if_false]
    rw [Nat.div_eq_of_lt h, Nat.mod_eq_of_lt h]; simp
  | true =>
    simp only [if_true]
    have e1 : (9223372036854775808 + r) / 9223372036854775808 = 1 := by omega
    have e2 : (9223372036854775808 + r) % 9223372036854775808 = r := by omega
    rw [e1, e2]; simp

end Go.Proofs.Pen

namespace Go.Proofs.Pen
open Go Go.Proofs
end Go.Proofs.Pen

namespace Go.Proofs.Pen
open Go Go.Proofs

end Go.Proofs.Pen

namespace Go.Proofs.Pen
open Go Go.Proofs

def fsgn (x : Nat) : Bool := x / 9223372036854775808 % 2 == 1
def frung (x : Nat) : Nat := x % 9223372036854775808
def sg (s : Bool) (n : Nat) : Int := if s then -(n : Int) else n
def fkey (x : Nat) : Int := sg (fsgn x) (frung x)


def rval (r : Nat) : Nat := if r < 4503599627370496 then r else (4503599627370496 + r % 4503599627370496) * 2 ^ (r / 4503599627370496 - 1)

theorem rval_lt {r r' : Nat} (h : r < r') : rval r < rval r' := by
  unfold rval
  by_cases h1 : r' < 4503599627370496
  · rw [if_pos h1, if_pos (by omega)]; exact h
  · rw [if_neg h1]
    by_cases h2 : r < 4503599627370496
    · rw [if_pos h2]
      have h3 : 1 ≤ 2 ^ (r' / 4503599627370496 - 1) := Nat.one_le_two_pow
      have h4 := Nat.mul_le_mul_left (4503599627370496 + r' % 4503599627370496) h3
      omega
    · rw [if_neg h2]
      have hq : r / 4503599627370496 ≤ r' / 4503599627370496 := Nat.div_le_div_right (by omega)
      rcases Nat.lt_or_ge (r / 4503599627370496) (r' / 4503599627370496) with h3 | h3
      · have e : r' / 4503599627370496 - 1 = (r / 4503599627370496 - 1) + 1 + (r' / 4503599627370496 - 1 - (r / 4503599627370496 - 1) - 1) := by omega
        rw [e, Nat.pow_add, Nat.pow_succ]
        generalize r' / 4503599627370496 - 1 - (r / 4503599627370496 - 1) - 1 = k
        have hk : 1 ≤ 2 ^ k := Nat.one_le_two_pow
        have ha : 0 < 2 ^ (r / 4503599627370496 - 1) := Nat.two_pow_pos _
        generalize 2 ^ (r / 4503599627370496 - 1) = a at *
        generalize 2 ^ k = b at *
        have h5 : r % 4503599627370496 < 4503599627370496 := Nat.mod_lt _ (by omega)
        generalize r % 4503599627370496 = c at *
        generalize r' % 4503599627370496 = d at *
        calc (4503599627370496 + c) * a < (2 * 4503599627370496) * a := Nat.mul_lt_mul_of_pos_right (by omega) ha
          _ = 4503599627370496 * (a * 2) := by rw [Nat.mul_comm a 2, ← Nat.mul_assoc, Nat.mul_comm 4503599627370496 2]
          _ ≤ (4503599627370496 + d) * (a * 2) := Nat.mul_le_mul_right _ (by omega)
          _ = (4503599627370496 + d) * (a * 2 * 1) := by rw [Nat.mul_one]
          _ ≤ (4503599627370496 + d) * (a * 2 * b) := Nat.mul_le_mul_left _ (Nat.mul_le_mul_left _ hk)
      · have e : r / 4503599627370496 = r' / 4503599627370496 := by omega
        rw [e]
        exact Nat.mul_lt_mul_of_pos_right (by omega) (Nat.two_pow_pos _)

theorem rval_inj {r r' : Nat} : (rval r < rval r' ↔ r < r') ∧ (rval r = rval r' ↔ r = r') := by
  rcases Nat.lt_trichotomy r r' with h | h | h
  · have := rval_lt h; omega
  · subst h; simp
  · have := rval_lt h; omega
theorem rval_zero : rval 0 = 0 := rfl

theorem read_val (x : Nat) (h : frung x < 9218868437227405312) : ∃ m p, FF.read x = .number (fsgn x) m p ∧ -1074 ≤ p ∧ m * 2 ^ (p + 1074).toNat = rval (frung x) := by
  unfold Ieee.Format.read
  simp only [ff_binade, ff_inf, ff_lp, ff_sw]
  unfold frung at h
  unfold rval frung fsgn
  by_cases h1 : x % 9223372036854775808 < 4503599627370496
  · rw [if_pos h1, if_pos h1]
    exact ⟨_, _, rfl, by omega, by simp⟩
  · rw [if_neg h1, if_neg h1, if_pos h]
    refine ⟨_, _, rfl, by omega, ?_⟩
    congr 2
    omega
theorem read_inf (x : Nat) (h : frung x = 9218868437227405312) : FF.read x = .infinity (fsgn x) := by
  unfold Ieee.Format.read
  simp only [ff_binade, ff_inf, ff_lp, ff_sw]
  unfold frung at h
  rw [if_neg (by omega), if_neg (by omega), if_pos h]
  rfl
theorem read_noN (x : Nat) (h : 9218868437227405312 < frung x) : ∃ t, FF.read x = .nan (fsgn x) t := by
  unfold Ieee.Format.read
  simp only [ff_binade, ff_inf, ff_lp, ff_sw]
  unfold frung at h
  rw [if_neg (by omega), if_neg (by omega), if_neg (by omega)]
  exact ⟨_, rfl⟩

theorem signed_eq (s : Bool) (m u : Nat) : Ieee.signed s m u = sg s (m * 2 ^ u) := by
  unfold Ieee.signed sg
  rw [Nat.shiftLeft_eq]
theorem sg_mul (s : Bool) (n k : Nat) : sg s (n * k) = sg s n * k := by
  unfold sg; split
  · rw [Int.natCast_mul, Int.neg_mul]
  · rw [Int.natCast_mul]
theorem compare_mul (a b : Int) (k : Nat) (h : 0 < k) : compare (a * k) (b * k) = compare a b := by
  have hk : (0 : Int) < k := by omega
  rcases Int.lt_trichotomy a b with h1 | h1 | h1
  · rw [Int.compare_eq_lt.2 h1, Int.compare_eq_lt.2 (Int.mul_lt_mul_of_pos_right h1 hk)]
  · subst h1; simp
  · rw [Int.compare_eq_gt.2 h1, Int.compare_eq_gt.2 (Int.mul_lt_mul_of_pos_right h1 hk)]

theorem order_num (s t : Bool) (m n : Nat) (i j : Int) (hi : -1074 ≤ i) (hj : -1074 ≤ j) :
    (Ieee.Datum.number s m i).order (.number t n j) = some (compare (sg s (m * 2 ^ (i + 1074).toNat)) (sg t (n * 2 ^ (j + 1074).toNat))) := by
  simp only [Ieee.Datum.order, signed_eq]
  have e1 : (i + 1074).toNat = (i - min i j).toNat + (min i j + 1074).toNat := by omega
  have e2 : (j + 1074).toNat = (j - min i j).toNat + (min i j + 1074).toNat := by omega
  rw [e1, e2, Nat.pow_add, Nat.pow_add, ← Nat.mul_assoc, ← Nat.mul_assoc, sg_mul s (m * _), sg_mul t (n * _), compare_mul _ _ _ (Nat.two_pow_pos _)]

theorem compare_sg (s t : Bool) (r r' : Nat) : compare (sg s (rval r)) (sg t (rval r')) = compare (sg s r) (sg t r') := by
  have h0 : ∀ r, rval r = 0 ↔ r = 0 := fun r => by have := (rval_inj (r := r) (r' := 0)).2; rwa [rval_zero] at this
  have := rval_inj (r := r) (r' := r')
  have := h0 r
  have := h0 r'
  generalize rval r = a at *
  generalize rval r' = b at *
  have key : ∀ x y z w : Int, (x < y ↔ z < w) → (x = y ↔ z = w) → compare x y = compare z w := fun x y z w h1 h2 => by
    rcases Int.lt_trichotomy x y with h | h | h
    · rw [Int.compare_eq_lt.2 h, Int.compare_eq_lt.2 (h1.1 h)]
    · rw [Int.compare_eq_eq.2 h, Int.compare_eq_eq.2 (h2.1 h)]
    · rw [Int.compare_eq_gt.2 h, Int.compare_eq_gt.2 (by omega)]
  apply key
  · cases s <;> cases t <;> simp only [sg, if_true, Bool.false_eq_true, if_false] <;> omega
  · cases s <;> cases t <;> simp only [sg, if_true, Bool.false_eq_true, if_false] <;> omega

theorem order_key {x y : Nat} (hx : frung x ≤ 9218868437227405312) (hy : frung y ≤ 9218868437227405312) : FF.order x y = some (compare (fkey x) (fkey y)) := by
  unfold Ieee.Format.order fkey
  rcases Nat.lt_or_ge (frung x) 9218868437227405312 with h1 | h1
  · obtain ⟨m, i, e1, hi, v1⟩ := read_val x h1
    rcases Nat.lt_or_ge (frung y) 9218868437227405312 with h2 | h2
    · obtain ⟨n, j, e2, hj, v2⟩ := read_val y h2
      rw [e1, e2, order_num _ _ _ _ _ _ hi hj, v1, v2, compare_sg]
    · have h2 : frung y = 9218868437227405312 := by omega
      rw [e1, read_inf y h2, h2]
      simp only [Ieee.Datum.order]
      unfold sg
      cases fsgn y
      · simp only [Bool.false_eq_true, if_false]
        refine congrArg some (Int.compare_eq_lt.2 ?_).symm
        split <;> omega
      · simp only [if_true]
        refine congrArg some (Int.compare_eq_gt.2 ?_).symm
        split <;> omega
  · have h1 : frung x = 9218868437227405312 := by omega
    rcases Nat.lt_or_ge (frung y) 9218868437227405312 with h2 | h2
    · obtain ⟨n, j, e2, hj, v2⟩ := read_val y h2
      rw [e2, read_inf x h1, h1]
      simp only [Ieee.Datum.order]
      unfold sg
      cases fsgn x
      · simp only [Bool.false_eq_true, if_false]
        refine congrArg some (Int.compare_eq_gt.2 ?_).symm
        split <;> omega
      · simp only [if_true]
        refine congrArg some (Int.compare_eq_lt.2 ?_).symm
        split <;> omega
    · have h2 : frung y = 9218868437227405312 := by omega
      rw [read_inf x h1, read_inf y h2, h1, h2]
      cases fsgn x <;> cases fsgn y <;> decide

def okey : Option Nat → Option Int
  | some x => if frung x ≤ 9218868437227405312 then some (fkey x) else none
  | none => none

theorem ford_key (a b : Option Nat) : ford a b = match okey a, okey b with
    | some i, some j => some (compare i j)
    | _, _ => none := by
  cases a with
  | none => cases b <;> rfl
  | some x =>
    cases b with
    | none => simp only [okey]; (split; · rename_i h1 h2; cases h2); rfl
    | some y =>
      show FF.order x y = _
      simp only [okey]
      by_cases h1 : frung x ≤ 9218868437227405312
      · by_cases h2 : frung y ≤ 9218868437227405312
        · rw [if_pos h1, if_pos h2, order_key h1 h2]
        · obtain ⟨t, e⟩ := read_noN y (by omega)
          rw [if_pos h1, if_neg h2]
          unfold Ieee.Format.order
          rw [e]
          cases FF.read x <;> rfl
      · obtain ⟨t, e⟩ := read_noN x (by omega)
        rw [if_neg h1]
        unfold Ieee.Format.order
        rw [e]
        rfl
def klt : Option Int → Option Int → Bool
  | some i, some j => decide (i < j)
  | _, _ => false
def kle : Option Int → Option Int → Bool
  | some i, some j => decide (i ≤ j)
  | _, _ => false
def keq : Option Int → Option Int → Bool
  | some i, some j => decide (i = j)
  | _, _ => false
theorem ford_lt (a b : Option Nat) : (ford a b == some .lt) = klt (okey a) (okey b) := by
  rw [ford_key]
  cases okey a <;> cases okey b <;> try rfl
  rename_i i j
  show (some (compare i j) == some Ordering.lt) = decide (i < j)
  rcases Int.lt_trichotomy i j with h | h | h
  · rw [Int.compare_eq_lt.2 h, decide_eq_true h]; rfl
  · rw [Int.compare_eq_eq.2 h, decide_eq_false (by omega)]; rfl
  · rw [Int.compare_eq_gt.2 h, decide_eq_false (by omega)]; rfl
theorem ford_gt (a b : Option Nat) : (ford a b == some .gt) = klt (okey b) (okey a) := by
  rw [ford_key]
  cases okey a <;> cases okey b <;> try rfl
  rename_i i j
  show (some (compare i j) == some Ordering.gt) = decide (j < i)
  rcases Int.lt_trichotomy i j with h | h | h
  · rw [Int.compare_eq_lt.2 h, decide_eq_false (by omega)]; rfl
  · rw [Int.compare_eq_eq.2 h, decide_eq_false (by omega)]; rfl
  · rw [Int.compare_eq_gt.2 h, decide_eq_true h]; rfl
theorem ford_eqk (a b : Option Nat) : (ford a b == some .eq) = keq (okey a) (okey b) := by
  rw [ford_key]
  cases okey a <;> cases okey b <;> try rfl
  rename_i i j
  show (some (compare i j) == some Ordering.eq) = decide (i = j)
  rcases Int.lt_trichotomy i j with h | h | h
  · rw [Int.compare_eq_lt.2 h, decide_eq_false (by omega)]; rfl
  · rw [Int.compare_eq_eq.2 h, decide_eq_true h]; rfl
  · rw [Int.compare_eq_gt.2 h, decide_eq_false (by omega)]; rfl
theorem ford_le (a b : Option Nat) : (ford a b == some .lt || ford a b == some .eq) = kle (okey a) (okey b) := by
  rw [ford_lt, ford_eqk]
  cases okey a <;> cases okey b <;> try rfl
  rename_i i j
  simp only [klt, keq, kle]
  by_cases h : i ≤ j
  · rw [decide_eq_true h]
    rcases Int.lt_or_eq_of_le h with h1 | h1
    · rw [decide_eq_true h1]; rfl
    · rw [decide_eq_true h1]; simp
  · rw [decide_eq_false h, decide_eq_false (by omega), decide_eq_false (by omega)]; rfl
theorem ford_ge (a b : Option Nat) : (ford a b == some .gt || ford a b == some .eq) = kle (okey b) (okey a) := by
  rw [ford_gt, ford_eqk]
  cases okey a <;> cases okey b <;> try rfl
  rename_i i j
  simp only [klt, keq, kle]
  by_cases h : j ≤ i
  · rw [decide_eq_true h]
    rcases Int.lt_or_eq_of_le h with h1 | h1
    · rw [decide_eq_true h1]; rfl
    · rw [decide_eq_true h1.symm]; simp
  · rw [decide_eq_false h, decide_eq_false (by omega), decide_eq_false (by omega)]; rfl
end Go.Proofs.Pen

namespace Go.Proofs.Pen
open Go Go.Proofs

theorem iter_scan_from {σ α : Type} {t : σ → T (Ex × σ)} {l : List α} {good : α → Bool} {st zr : Nat → σ} {ze : σ} {er ee : Ex} (hstep : ∀ i (h : i < l.length), (t (st i)).run = some (if good l[i] then (.normal, st (i + 1)) else (er, zr i)))
    (hend : (t (st l.length)).run = some (ee, ze)) (her : er ≠ .normal) (hee : ee ≠ .normal) : ∀ (n k m : Nat), k + n = l.length → n < m →
      ((l.drop k).all good = true ∧ (iterT t m (st k)).run = some (ee, ze)) ∨ ((l.drop k).all good = false ∧ ∃ i, (iterT t m (st k)).run = some (er, zr i))
  | n, k, 0, _, hm => absurd hm (Nat.not_lt_zero _)
  | 0, k, m + 1, hk, _ => by
    have : k = l.length := by omega
    subst this
    refine .inl ⟨by simp, ?_⟩
    rw [iter_step hend]
    cases ee <;> first | rfl | exact absurd rfl hee
  | n + 1, k, m + 1, hk, hm => by
    have hlt : k < l.length := by omega
    have hs := hstep k hlt
    rw [List.drop_eq_getElem_cons hlt, List.all_cons]
    by_cases hg : good l[k] = true
    · rw [if_pos hg] at hs
      rw [hg, Bool.true_and, iter_step hs]
      exact iter_scan_from hstep hend her hee n (k + 1) m (by omega) (by omega)
    · rw [if_neg hg] at hs
      have : good l[k] = false := by simpa using hg
      rw [this]
      refine .inr ⟨rfl, k, ?_⟩
      rw [iter_step hs]
      cases er <;> first | rfl | exact absurd rfl her

theorem iter_scan {σ α : Type} {t : σ → T (Ex × σ)} (l : List α) (good : α → Bool) (st zr : Nat → σ) (ze : σ) (er ee : Ex) (hstep : ∀ i (h : i < l.length), (t (st i)).run = some (if good l[i] then (.normal, st (i + 1)) else (er, zr i)))
    (hend : (t (st l.length)).run = some (ee, ze)) (her : er ≠ .normal) (hee : ee ≠ .normal) {m : Nat} (hm : l.length < m) :
      (l.all good = true ∧ (iterT t m (st 0)).run = some (ee, ze)) ∨ (l.all good = false ∧ ∃ i, (iterT t m (st 0)).run = some (er, zr i)) :=
  iter_scan_from hstep hend her hee l.length 0 m (by omega) hm

end Go.Proofs.Pen

namespace Go.Proofs.Pen
open Go Go.Proofs

def rne (n d : Nat) : Nat := n / 2 ^ d + (if 2 ^ d < 2 * (n % 2 ^ d) ∨ (2 ^ d = 2 * (n % 2 ^ d) ∧ (n / 2 ^ d) % 2 = 1) then 1 else 0)

theorem cut_rne (s : Bool) (n d : Nat) : Ieee.Toward.even.cut s n d = rne n d := by
  have key : ∀ g, (n / 2 ^ g + (decide (2 ^ g < 2 * (n % 2 ^ g)) || (2 ^ g == 2 * (n % 2 ^ g) && n / 2 ^ g % 2 == 1)).toNat) = rne n g := fun g => by
    unfold rne
    congr 1
    by_cases h : 2 ^ g < 2 * (n % 2 ^ g) ∨ (2 ^ g = 2 * (n % 2 ^ g) ∧ (n / 2 ^ g) % 2 = 1)
    · rw [if_pos h]
      rcases h with h | ⟨h1, h2⟩
      · simp [h]
      · rw [beq_iff_eq.2 h1, beq_iff_eq.2 h2]; simp
    · rw [if_neg h]
      have h1 : ¬ 2 ^ g < 2 * (n % 2 ^ g) := fun e => h (.inl e)
      have h2 : (2 ^ g == 2 * (n % 2 ^ g) && n / 2 ^ g % 2 == 1) = false := by
        cases e : (2 ^ g == 2 * (n % 2 ^ g) && n / 2 ^ g % 2 == 1) with
        | false => rfl
        | true =>
          rw [Bool.and_eq_true] at e
          exact absurd (.inr ⟨by simpa using e.1, by simpa using e.2⟩) h
      rw [h2, decide_eq_false h1]; rfl
  show n / (1 <<< min d (n.log2 + 2)) + (decide (1 <<< min d (n.log2 + 2) < 2 * (n % (1 <<< min d (n.log2 + 2)))) || (1 <<< min d (n.log2 + 2) == 2 * (n % (1 <<< min d (n.log2 + 2))) && n / (1 <<< min d (n.log2 + 2)) % 2 == 1)).toNat = _
  rw [Nat.one_shiftLeft, key]
  rcases Nat.lt_or_ge (n.log2 + 2) d with h | h
  · rw [Nat.min_eq_right (Nat.le_of_lt h)]
    have hz : ∀ g, n.log2 + 2 ≤ g → rne n g = 0 := fun g hg => by
      have h1 : n < 2 ^ (n.log2 + 1) := Nat.lt_log2_self
      have h2 : 2 ^ (n.log2 + 2) ≤ 2 ^ g := Nat.pow_le_pow_right (by omega) hg
      have h3 : 2 ^ (n.log2 + 2) = 2 ^ (n.log2 + 1) * 2 := Nat.pow_succ ..
      have h4 : n < 2 ^ g := by omega
      unfold rne
      rw [Nat.div_eq_of_lt h4, Nat.mod_eq_of_lt h4, if_neg (by omega)]
    rw [hz _ (Nat.le_refl _), hz _ (by omega)]
  · rw [Nat.min_eq_left h]

theorem rne_zero (n : Nat) : rne n 0 = n := by
  unfold rne
  rw [Nat.pow_zero, Nat.mod_one, Nat.div_one, if_neg (by omega)]; rfl
theorem rne_mono {a b : Nat} (h : a ≤ b) (d : Nat) : rne a d ≤ rne b d := by
  unfold rne
  have hp : 0 < 2 ^ d := Nat.two_pow_pos d
  have hq : a / 2 ^ d ≤ b / 2 ^ d := Nat.div_le_div_right h
  have e1 := Nat.div_add_mod a (2 ^ d)
  have e2 := Nat.div_add_mod b (2 ^ d)
  rcases Nat.lt_or_ge (a / 2 ^ d) (b / 2 ^ d) with hl | hl
  · split <;> split <;> omega
  · have he : a / 2 ^ d = b / 2 ^ d := by omega
    have hr : a % 2 ^ d ≤ b % 2 ^ d := by rw [he] at e1; omega
    rw [he]
    split
    · rename_i h1
      rw [if_pos]
      · omega
      · rcases h1 with h1 | ⟨h1, h2⟩
        · exact .inl (by omega)
        · rcases Nat.lt_or_ge (2 ^ d) (2 * (b % 2 ^ d)) with h3 | h3
          · exact .inl h3
          · exact .inr ⟨by omega, h2⟩
    · split <;> omega
theorem rne_scale (n d k : Nat) : rne (n * 2 ^ k) (d + k) = rne n d := by
  unfold rne
  have hk : 0 < 2 ^ k := Nat.two_pow_pos k
  rw [Nat.pow_add, Nat.mul_div_mul_right _ _ hk, Nat.mul_mod_mul_right]
  have e : 2 * (n % 2 ^ d * 2 ^ k) = (2 * (n % 2 ^ d)) * 2 ^ k := by rw [Nat.mul_assoc]
  rw [e]
  congr 1
  have h1 : 2 ^ d * 2 ^ k < (2 * (n % 2 ^ d)) * 2 ^ k ↔ 2 ^ d < 2 * (n % 2 ^ d) := Nat.mul_lt_mul_right hk
  have h2 : 2 ^ d * 2 ^ k = (2 * (n % 2 ^ d)) * 2 ^ k ↔ 2 ^ d = 2 * (n % 2 ^ d) := ⟨fun h => Nat.eq_of_mul_eq_mul_right hk h, fun h => congrArg (· * 2 ^ k) h⟩
  simp only [h1, h2]
theorem rne_exact (n k : Nat) : rne (n * 2 ^ k) k = n := by
  have := rne_scale n 0 k
  rw [Nat.zero_add, rne_zero] at this
  exact this
theorem rne_le (n d : Nat) : rne n d ≤ n / 2 ^ d + 1 := by unfold rne; split <;> omega
theorem rne_ge (n d : Nat) : n / 2 ^ d ≤ rne n d := by unfold rne; omega

def lastP (m : Nat) (p : Int) : Int := max (p + (m.log2 : Int) - 52) (-1074)
def kept (m : Nat) (p l : Int) : Nat := rne (m * 2 ^ (p - l).toNat) (l - p).toNat
def rnd (m : Nat) (p : Int) : Nat := if m = 0 then 0 else min ((lastP m p + 1074).toNat * 4503599627370496 + kept m p (lastP m p)) 9218868437227405312
theorem nearest_rnd (s : Bool) (m : Nat) (p : Int) : FF.nearest s m p = FF.word s (rnd m p) := by
  unfold Ieee.Format.nearest rnd
  by_cases h : m = 0
  · rw [if_pos h, if_pos h]
  · rw [if_neg h, if_neg h]
    simp only [cut_rne, ff_lp, ff_inf, ff_binade, Nat.shiftLeft_eq]
    rfl

theorem kept_scale {m : Nat} (k : Nat) (p l : Int) : kept (m * 2 ^ k) (p - k) l = kept m p l := by
  unfold kept
  rcases Int.lt_or_le (p - k) l with h | h
  · rcases Int.lt_or_le p l with h2 | h2
    · have e1 : (p - k - l).toNat = 0 := by omega
      have e2 : (p - l).toNat = 0 := by omega
      have e3 : (l - (p - k)).toNat = (l - p).toNat + k := by omega
      rw [e1, e2, e3, Nat.pow_zero, Nat.mul_one, Nat.mul_one, rne_scale]
    · have e1 : (p - k - l).toNat = 0 := by omega
      have e2 : (l - p).toNat = 0 := by omega
      rw [e1, e2, Nat.pow_zero, Nat.mul_one, rne_zero]
      have e3 : k = (p - l).toNat + (l - (p - k)).toNat := by omega
      have e4 : m * 2 ^ k = m * 2 ^ (p - l).toNat * 2 ^ (l - (p - k)).toNat := by
        rw [Nat.mul_assoc, ← Nat.pow_add, ← e3]
      rw [e4, rne_exact]
  · have e1 : (l - (p - k)).toNat = 0 := by omega
    have e2 : (l - p).toNat = 0 := by omega
    have e3 : (p - l).toNat = k + (p - k - l).toNat := by omega
    rw [e1, e2, rne_zero, rne_zero, e3, Nat.pow_add, Nat.mul_assoc]
theorem rnd_scale (m k : Nat) (p : Int) : rnd (m * 2 ^ k) (p - k) = rnd m p := by
  unfold rnd
  by_cases h : m = 0
  · subst h; rw [Nat.zero_mul, if_pos rfl, if_pos rfl]
  · have hk : m * 2 ^ k ≠ 0 := Nat.mul_ne_zero h (by have := Nat.two_pow_pos k; omega)
    have hl : lastP (m * 2 ^ k) (p - k) = lastP m p := by
      unfold lastP
      rw [log2_shift (by omega) k]
      omega
    rw [if_neg h, if_neg hk, hl, kept_scale]

theorem log2_mono {a b : Nat} (h0 : 0 < a) (h : a ≤ b) : a.log2 ≤ b.log2 := by
  rw [Nat.le_log2 (by omega)]
  exact Nat.le_trans (Nat.log2_self_le (by omega)) h

theorem rnd_mono_at {a b : Nat} (h : a ≤ b) (p : Int) : rnd a p ≤ rnd b p := by
  unfold rnd
  by_cases ha : a = 0
  · rw [if_pos ha]; exact Nat.zero_le _
  have hb : b ≠ 0 := by omega
  rw [if_neg ha, if_neg hb]
  have hlog := log2_mono (by omega) h
  suffices hs : (lastP a p + 1074).toNat * 4503599627370496 + kept a p (lastP a p) ≤ (lastP b p + 1074).toNat * 4503599627370496 + kept b p (lastP b p) by omega
  have h1 : lastP a p ≤ lastP b p := by unfold lastP; omega
  rcases Int.lt_or_eq_of_le h1 with hlt | heq
  · have hb1 : lastP b p = p + (b.log2 : Int) - 52 := by unfold lastP at hlt ⊢; omega
    have ha1 : p + (a.log2 : Int) - 52 ≤ lastP a p := by unfold lastP; omega
    have ha2 : -1074 ≤ lastP a p := by unfold lastP; omega
    have hkb : 4503599627370496 ≤ kept b p (lastP b p) := by
      unfold kept
      have hb2 := Nat.log2_self_le hb
      rcases Int.lt_or_le p (lastP b p) with hc | hc
      · have e1 : (p - lastP b p).toNat = 0 := by omega
        have e2 : b.log2 = 52 + (lastP b p - p).toNat := by omega
        rw [e1, Nat.pow_zero, Nat.mul_one]
        refine Nat.le_trans ?_ (rne_ge _ _)
        rw [Nat.le_div_iff_mul_le (Nat.two_pow_pos _)]
        have : (2 : Nat) ^ b.log2 = 2 ^ 52 * 2 ^ (lastP b p - p).toNat := by rw [← Nat.pow_add, ← e2]
        rw [two52] at this
        omega
      · have e1 : (lastP b p - p).toNat = 0 := by omega
        have e2 : b.log2 + (p - lastP b p).toNat = 52 := by omega
        rw [e1, rne_zero]
        have : (2 : Nat) ^ b.log2 * 2 ^ (p - lastP b p).toNat = 4503599627370496 := by rw [← Nat.pow_add, e2, two52]
        have := Nat.mul_le_mul_right (2 ^ (p - lastP b p).toNat) hb2
        omega
    have hka : kept a p (lastP a p) ≤ 9007199254740992 := by
      unfold kept
      have ha3 : a < 2 ^ (a.log2 + 1) := Nat.lt_log2_self
      rcases Int.lt_or_le p (lastP a p) with hc | hc
      · have e1 : (p - lastP a p).toNat = 0 := by omega
        rw [e1, Nat.pow_zero, Nat.mul_one]
        have h5 : a / 2 ^ (lastP a p - p).toNat < 9007199254740992 := by
          rw [Nat.div_lt_iff_lt_mul (Nat.two_pow_pos _)]
          have h6 : (2 : Nat) ^ (a.log2 + 1) ≤ 2 ^ (53 + (lastP a p - p).toNat) := Nat.pow_le_pow_right (by omega) (by omega)
          rw [Nat.pow_add 2 53, two53] at h6
          omega
        have := rne_le a (lastP a p - p).toNat
        omega
      · have e1 : (lastP a p - p).toNat = 0 := by omega
        rw [e1, rne_zero]
        have h6 : (2 : Nat) ^ (a.log2 + 1) * 2 ^ (p - lastP a p).toNat ≤ 2 ^ 53 := by rw [← Nat.pow_add]; exact Nat.pow_le_pow_right (by omega) (by omega)
        have h7 := Nat.mul_le_mul_right (2 ^ (p - lastP a p).toNat) (Nat.le_of_lt ha3)
        rw [two53] at h6
        omega
    omega
  · rw [← heq]
    have : kept a p (lastP a p) ≤ kept b p (lastP a p) := by
      unfold kept
      exact rne_mono (Nat.mul_le_mul_right _ h) _
    omega

def leP (a : Nat) (p : Int) (b : Nat) (q : Int) : Prop := a * 2 ^ (p - min p q).toNat ≤ b * 2 ^ (q - min p q).toNat
theorem rnd_mono {a b : Nat} {p q : Int} (h : leP a p b q) : rnd a p ≤ rnd b q := by
  unfold leP at h
  have h1 := rnd_scale a (p - min p q).toNat p
  have h2 := rnd_scale b (q - min p q).toNat q
  rw [show p - ((p - min p q).toNat : Int) = min p q by omega] at h1
  rw [show q - ((q - min p q).toNat : Int) = min p q by omega] at h2
  rw [← h1, ← h2]
  exact rnd_mono_at h _
end Go.Proofs.Pen

namespace Go.Proofs.Pen
open Go Go.Proofs

abbrev INF : Nat := 9218868437227405312
def valI (i : Int) : Int := sg (decide (i < 0)) (rval i.natAbs)
def rr (n : Nat) : Nat := rnd n (-1074)
def RR (z : Int) : Int := sg (decide (z < 0)) (rr z.natAbs)

theorem rr_mono {a b : Nat} (h : a ≤ b) : rr a ≤ rr b := rnd_mono_at h _
theorem rnd_le_inf (m : Nat) (p : Int) : rnd m p ≤ 9218868437227405312 := by
  unfold rnd
  split
  · omega
  · exact Nat.min_le_right _ _
theorem rval_mono {a b : Nat} (h : a ≤ b) : rval a ≤ rval b := by
  rcases Nat.lt_or_eq_of_le h with h | h
  · exact Nat.le_of_lt (rval_lt h)
  · rw [h]; exact Nat.le_refl _
theorem valI_nn {i : Int} (h : 0 ≤ i) : valI i = rval i.natAbs := by unfold valI sg; rw [decide_eq_false (by omega)]; rfl
theorem valI_neg {i : Int} (h : i < 0) : valI i = -(rval i.natAbs : Int) := by unfold valI sg; rw [decide_eq_true h]; rfl
theorem rval_pos {r : Nat} (h : 0 < r) : 0 < rval r := by have := rval_lt h; rw [rval_zero] at this; exact this
theorem valI_mono {i j : Int} (h : i ≤ j) : valI i ≤ valI j := by
  rcases Int.lt_or_le i 0 with h1 | h1
  · rw [valI_neg h1]
    rcases Int.lt_or_le j 0 with h2 | h2
    · rw [valI_neg h2]; have := rval_mono (show j.natAbs ≤ i.natAbs by omega); omega
    · rw [valI_nn h2]; omega
  · rw [valI_nn h1, valI_nn (by omega)]; have := rval_mono (show i.natAbs ≤ j.natAbs by omega); omega
theorem valI_lt {i j : Int} (h : i < j) : valI i < valI j := by
  rcases Int.lt_or_le i 0 with h1 | h1
  · rw [valI_neg h1]
    have := rval_pos (show 0 < i.natAbs by omega)
    rcases Int.lt_or_le j 0 with h2 | h2
    · rw [valI_neg h2]; have := rval_lt (show j.natAbs < i.natAbs by omega); omega
    · rw [valI_nn h2]; omega
  · rw [valI_nn h1, valI_nn (by omega)]; have := rval_lt (show i.natAbs < j.natAbs by omega); omega
theorem RR_mono {a b : Int} (h : a ≤ b) : RR a ≤ RR b := by
  unfold RR sg
  rcases Int.lt_or_le a 0 with h1 | h1
  · rw [decide_eq_true h1]
    rcases Int.lt_or_le b 0 with h2 | h2
    · rw [decide_eq_true h2]
      have := rr_mono (show b.natAbs ≤ a.natAbs by omega)
      simp only [if_true]; omega
    · rw [decide_eq_false (by omega)]
      simp only [if_true, Bool.false_eq_true, if_false]; omega
  · rw [decide_eq_false (by omega), decide_eq_false (by omega)]
    have := rr_mono (show a.natAbs ≤ b.natAbs by omega)
    simp only [Bool.false_eq_true, if_false]; omega
theorem fin_read {a : Option Nat} {i : Int} (h : okey a = some i) (hf : i.natAbs < 9218868437227405312) : ∃ x s m p, a = some x ∧ FF.read x = .number s m p ∧ -1074 ≤ p ∧ sg s (m * 2 ^ (p + 1074).toNat) = valI i ∧ m * 2 ^ (p + 1074).toNat = rval i.natAbs ∧ (i < 0 → s = true) ∧ (0 < i → s = false) := by
  cases a with
  | none => cases h
  | some x =>
    have h' : (if frung x ≤ 9218868437227405312 then some (fkey x) else none) = some i := h
    split at h'
    · have hk : fkey x = i := Option.some.inj h'
      have hr : i.natAbs = frung x := by rw [← hk]; unfold fkey sg; split <;> omega
      obtain ⟨m, p, e1, e2, e3⟩ := read_val x (by omega)
      refine ⟨x, fsgn x, m, p, rfl, e1, e2, ?_, by rw [e3, hr], ?_, ?_⟩
      · rw [e3]
        unfold valI
        rw [hr]
        unfold fkey at hk
        cases hs : fsgn x with
        | true =>
          rw [hs] at hk
          unfold sg at hk ⊢
          simp only [if_true] at hk ⊢
          by_cases h0 : frung x = 0
          · rw [h0, rval_zero]; split <;> rfl
          · rw [decide_eq_true (by omega)]; rfl
        | false =>
          rw [hs] at hk
          unfold sg at hk ⊢
          simp only [Bool.false_eq_true, if_false] at hk ⊢
          rw [decide_eq_false (by omega)]; rfl
      · intro hi
        unfold fkey sg at hk
        cases hs : fsgn x with
        | true => rfl
        | false => rw [hs] at hk; simp only [Bool.false_eq_true, if_false] at hk; omega
      · intro hi
        unfold fkey sg at hk
        cases hs : fsgn x with
        | false => rfl
        | true => rw [hs] at hk; simp only [if_true] at hk; omega
    · cases h'

theorem okey_word (s : Bool) {r : Nat} (h : r ≤ 9218868437227405312) : okey (some (FF.word s r)) = some (sg s r) := by
  have h1 := word_parts s (show r < 9223372036854775808 by omega)
  rw [ff_sw] at h1
  have hr : frung (FF.word s r) = r := h1.2
  have hs : fsgn (FF.word s r) = s := h1.1
  show (if frung (FF.word s r) ≤ _ then some (fkey (FF.word s r)) else none) = _
  rw [hr, if_pos h]
  unfold fkey
  rw [hr, hs]

theorem sum_key (s t : Bool) (m n : Nat) (p q : Int) (hp : -1074 ≤ p) (hq : -1074 ≤ q) :
    ∃ w, ((Ieee.Datum.number s m p).sum (.number t n q)).map FF.write = some w ∧ okey (some w) = some (RR (sg s (m * 2 ^ (p + 1074).toNat) + sg t (n * 2 ^ (q + 1074).toNat))) := by
  refine ⟨_, rfl, ?_⟩
  show okey (some (FF.nearest _ _ _)) = _
  rw [nearest_rnd, okey_word _ (rnd_le_inf _ _)]
  simp only [signed_eq]
  have e1 : (p + 1074).toNat = (p - min p q).toNat + (min p q + 1074).toNat := by omega
  have e2 : (q + 1074).toNat = (q - min p q).toNat + (min p q + 1074).toNat := by omega
  rw [e1, e2, Nat.pow_add, Nat.pow_add, ← Nat.mul_assoc, ← Nat.mul_assoc, sg_mul s (m * _), sg_mul t (n * _), ← Int.add_mul]
  generalize sg s (m * 2 ^ (p - min p q).toNat) + sg t (n * 2 ^ (q - min p q).toNat) = z
  have hk : 0 < 2 ^ (min p q + 1074).toNat := Nat.two_pow_pos _
  generalize hK : (2 : Nat) ^ (min p q + 1074).toNat = K at hk
  have hs := rnd_scale z.natAbs (min p q + 1074).toNat (min p q)
  rw [show min p q - ((min p q + 1074).toNat : Int) = -1074 by omega, hK] at hs
  unfold RR rr
  have hab : (z * (K : Int)).natAbs = z.natAbs * K := by rw [Int.natAbs_mul]; rfl
  rw [hab, hs]
  by_cases hz : z = 0
  · subst hz
    have h0 : rnd (0 : Int).natAbs (min p q) = 0 := by show rnd 0 _ = 0; unfold rnd; rw [if_pos rfl]
    rw [h0]
    unfold sg
    simp
  · rw [if_neg hz]
    have : decide (z * (K : Int) < 0) = decide (z < 0) := by
      have hK' : (0 : Int) < K := by omega
      rcases Int.lt_or_le z 0 with h | h
      · rw [decide_eq_true h, decide_eq_true (Int.mul_neg_of_neg_of_pos h hK')]
      · have h2 := Int.mul_nonneg h (Int.le_of_lt hK')
        rw [decide_eq_false (show ¬ z < 0 by omega), decide_eq_false (show ¬ z * (K : Int) < 0 by omega)]
    rw [this]

theorem add_key {a b : Option Nat} {i j : Int} (ha : okey a = some i) (hb : okey b = some j) (hi : i.natAbs < 9218868437227405312) (hj : j.natAbs < 9218868437227405312) : okey (fop .add a b) = some (RR (valI i + valI j)) := by
  obtain ⟨x, s, m, p, rfl, h1, h2, h3, _⟩ := fin_read ha hi
  obtain ⟨y, t, n, q, rfl, k1, k2, k3, _⟩ := fin_read hb hj
  obtain ⟨w, e1, e2⟩ := sum_key s t m n p q h2 k2
  have : fop .add (some x) (some y) = some w := by
    show FF.add x y = some w
    unfold Ieee.Format.add
    rw [h1, k1]; exact e1
  rw [this, e2, h3, k3]
theorem sub_key {a b : Option Nat} {i j : Int} (ha : okey a = some i) (hb : okey b = some j) (hi : i.natAbs < 9218868437227405312) (hj : j.natAbs < 9218868437227405312) : okey (fop .sub a b) = some (RR (valI i - valI j)) := by
  obtain ⟨x, s, m, p, rfl, h1, h2, h3, _⟩ := fin_read ha hi
  obtain ⟨y, t, n, q, rfl, k1, k2, k3, _⟩ := fin_read hb hj
  obtain ⟨w, e1, e2⟩ := sum_key s (!t) m n p q h2 k2
  have : fop .sub (some x) (some y) = some w := by
    show FF.sub x y = some w
    unfold Ieee.Format.sub
    rw [h1, k1]; exact e1
  have hn : sg (!t) (n * 2 ^ (q + 1074).toNat) = -valI j := by rw [← k3]; unfold sg; cases t <;> simp
  rw [this, e2, h3, hn]
  rfl

def MM (z : Int) : Int := sg (decide (z < 0)) (rnd z.natAbs (-2148))
theorem mul_key {a b : Option Nat} {i j : Int} (ha : okey a = some i) (hb : okey b = some j) (hi : i.natAbs < 9218868437227405312) (hj : j.natAbs < 9218868437227405312) : okey (fop .mul a b) = some (MM (valI i * valI j)) := by
  obtain ⟨x, s, m, p, rfl, h1, h2, h3, _⟩ := fin_read ha hi
  obtain ⟨y, t, n, q, rfl, k1, k2, k3, _⟩ := fin_read hb hj
  have : fop .mul (some x) (some y) = some (FF.nearest (s ^^ t) (m * n) (p + q)) := by
    show FF.mul x y = _
    unfold Ieee.Format.mul
    rw [h1, k1]; rfl
  rw [this, nearest_rnd, okey_word _ (rnd_le_inf _ _), ← h3, ← k3]
  have hs := rnd_scale (m * n) ((p + 1074).toNat + (q + 1074).toNat) (p + q)
  rw [show p + q - (((p + 1074).toNat + (q + 1074).toNat : Nat) : Int) = -2148 by omega] at hs
  have e : m * n * 2 ^ ((p + 1074).toNat + (q + 1074).toNat) = (m * 2 ^ (p + 1074).toNat) * (n * 2 ^ (q + 1074).toNat) := by
    rw [Nat.pow_add]; simp only [Nat.mul_assoc, Nat.mul_left_comm]
  rw [e] at hs
  rw [← hs]
  generalize m * 2 ^ (p + 1074).toNat = A
  generalize n * 2 ^ (q + 1074).toNat = B
  unfold MM
  have hz : ∀ z : Bool, A * B = 0 → sg z (rnd (A * B) (-2148)) = 0 := fun z h => by
    rw [h]; unfold rnd; rw [if_pos rfl]; unfold sg; cases z <;> rfl
  have hab : (sg s A * sg t B).natAbs = A * B := by
    rw [Int.natAbs_mul]
    have : ∀ z C, (sg z C).natAbs = C := fun z C => by unfold sg; cases z <;> simp
    rw [this, this]
  rw [hab]
  by_cases h0 : A * B = 0
  · rw [hz _ h0, hz _ h0]
  · have hA : 0 < A := Nat.pos_of_ne_zero fun e => h0 (by rw [e, Nat.zero_mul])
    have hB : 0 < B := Nat.pos_of_ne_zero fun e => h0 (by rw [e, Nat.mul_zero])
    have hp : (0 : Int) < (A : Int) * B := Int.mul_pos (by omega) (by omega)
    have : decide (sg s A * sg t B < 0) = (s ^^ t) := by
      unfold sg
      cases s <;> cases t <;> simp [Int.mul_neg, Int.neg_mul] <;> omega
    rw [this]
theorem MM_mono {a b : Int} (h : a ≤ b) : MM a ≤ MM b := by
  unfold MM sg
  rcases Int.lt_or_le a 0 with h1 | h1
  · rw [decide_eq_true h1]
    rcases Int.lt_or_le b 0 with h2 | h2
    · rw [decide_eq_true h2]
      have := rnd_mono_at (show b.natAbs ≤ a.natAbs by omega) (-2148)
      simp only [if_true]; omega
    · rw [decide_eq_false (by omega)]
      simp only [if_true, Bool.false_eq_true, if_false]; omega
  · rw [decide_eq_false (by omega), decide_eq_false (by omega)]
    have := rnd_mono_at (show a.natAbs ≤ b.natAbs by omega) (-2148)
    simp only [Bool.false_eq_true, if_false]; omega
end Go.Proofs.Pen

namespace Go.Proofs.Pen
open Go Go.Proofs

theorem fin_len {m n i j : Nat} (hm : 0 < m) (h : m * 2 ^ i ≤ n * 2 ^ j) : m.log2 + i ≤ n.log2 + j := by
  have h1 := Nat.log2_self_le (Nat.ne_of_gt hm)
  have h2 : n < 2 ^ (n.log2 + 1) := Nat.lt_log2_self
  have h3 : (2 : Nat) ^ (m.log2 + i) < 2 ^ (n.log2 + 1 + j) := by
    rw [Nat.pow_add, Nat.pow_add 2 (n.log2 + 1)]
    have a1 := Nat.mul_le_mul_right (2 ^ i) h1
    have a2 := (Nat.mul_lt_mul_right (Nat.two_pow_pos j)).2 h2
    omega
  have := (Nat.pow_lt_pow_iff_right (show 1 < 2 by omega)).1 h3
  omega

theorem one_rnd : rnd 1 0 = 4607182418800017408 := by kernel_rfl

theorem quo_word {s t : Bool} {m n : Nat} {p q : Int} (hp : -1074 ≤ p) (hq : -1074 ≤ q) (hn : 0 < n) (h : m * 2 ^ (p + 1074).toNat ≤ n * 2 ^ (q + 1074).toNat) :
    ∃ r, ((Ieee.Datum.number s m p).quotient 54 (.number t n q)).map FF.write = some (FF.word (s ^^ t) r) ∧ r ≤ 4607182418800017408 ∧ (m = 0 → r = 0) := by
  unfold Ieee.Datum.quotient
  simp only [show n ≠ 0 by omega, if_false, Nat.shiftLeft_eq, Option.map_some]
  generalize hmo : 54 + n.log2 - m.log2 = more
  refine ⟨_, congrArg some (nearest_rnd _ _ _), ?_, ?_⟩
  · rcases Nat.eq_zero_or_pos m with h0 | h0
    · subst h0
      rw [Nat.zero_mul, Nat.zero_div, Nat.zero_mod]
      have : ∀ e, rnd (2 * 0 + ((0 != 0) : Bool).toNat) e = 0 := fun e => by show rnd 0 e = 0; unfold rnd; rw [if_pos rfl]
      rw [this]; omega
    · have hl := fin_len h0 h
      generalize hi : (p + 1074).toNat = i at h hl
      generalize hj : (q + 1074).toNat = j at h hl
      obtain ⟨k, hk⟩ : ∃ k, j + more = k + i := ⟨j + more - i, by omega⟩
      have hD : m * 2 ^ more ≤ n * 2 ^ k := by
        have a1 := Nat.mul_le_mul_right (2 ^ more) h
        have e1 : m * 2 ^ i * 2 ^ more = m * 2 ^ more * 2 ^ i := by simp only [Nat.mul_assoc, Nat.mul_comm, Nat.mul_left_comm]
        have e2 : n * 2 ^ j * 2 ^ more = n * 2 ^ k * 2 ^ i := by rw [Nat.mul_assoc, ← Nat.pow_add, hk, Nat.pow_add, Nat.mul_assoc]
        rw [e1, e2] at a1
        exact Nat.le_of_mul_le_mul_right a1 (Nat.two_pow_pos i)
      have he : p - q - (more : Int) - 1 = -((k + 1 : Nat) : Int) := by omega
      rw [he, ← one_rnd]
      apply rnd_mono
      unfold leP
      have m1 : min (-((k + 1 : Nat) : Int)) 0 = -((k + 1 : Nat) : Int) := by omega
      rw [m1]
      have m2 : (-((k + 1 : Nat) : Int) - -((k + 1 : Nat) : Int)).toNat = 0 := by omega
      have m3 : ((0 : Int) - -((k + 1 : Nat) : Int)).toNat = k + 1 := by omega
      rw [m2, m3, Nat.pow_zero, Nat.mul_one, Nat.one_mul, Nat.pow_succ]
      generalize m * 2 ^ more = D at hD
      generalize 2 ^ k = K at hD
      have hd := Nat.div_add_mod D n
      have hlt := Nat.mod_lt D hn
      have hq : D / n ≤ K := by
        rw [Nat.div_le_iff_le_mul_add_pred hn]
        have : n * K ≤ K * n := by rw [Nat.mul_comm]; exact Nat.le_refl _
        omega
      rcases Nat.lt_or_eq_of_le hq with hc | hc
      · have : (D % n != 0).toNat ≤ 1 := Bool.toNat_le _
        omega
      · rw [hc] at hd
        have h0 : D % n = 0 := by omega
        rw [h0, hc]
        simp only [bne_self_eq_false, Bool.toNat_false]
        omega
  · intro h0
    subst h0
    rw [Nat.zero_mul, Nat.zero_div, Nat.zero_mod]
    show rnd 0 _ = 0
    unfold rnd; rw [if_pos rfl]

theorem quo_key {a b : Option Nat} {i j : Int} (ha : okey a = some i) (hb : okey b = some j) (h0 : 0 ≤ i) (hij : i ≤ j) (hj0 : 0 < j) (hj : j < 9218868437227405312) : ∃ q, okey (fop .quo a b) = some q ∧ 0 ≤ q ∧ q ≤ 4607182418800017408 := by
  obtain ⟨x, s, m, p, rfl, h1, h2, h3, h4, h5, h6⟩ := fin_read ha (by omega)
  obtain ⟨y, t, n, q, rfl, k1, k2, k3, k4, k5, k6⟩ := fin_read hb (by omega)
  have hn : 0 < n := by
    have := rval_pos (show 0 < j.natAbs by omega)
    rw [← k4] at this
    exact Nat.pos_of_mul_pos_right this
  obtain ⟨r, e1, e2, e3⟩ := quo_word (s := s) (t := t) h2 k2 hn (by rw [h4, k4]; exact rval_mono (by omega))
  have : fop .quo (some x) (some y) = some (FF.word (s ^^ t) r) := by
    show FF.div x y = _
    unfold Ieee.Format.div
    rw [h1, k1]; exact e1
  rw [this, okey_word _ (by omega)]
  refine ⟨_, rfl, ?_⟩
  rw [k6 hj0]
  rcases Int.lt_or_eq_of_le h0 with hc | hc
  · rw [h6 hc]
    show 0 ≤ (r : Int) ∧ (r : Int) ≤ _
    omega
  · have hm : m = 0 := by
      rw [← hc] at h4
      rw [show (0 : Int).natAbs = 0 from rfl, rval_zero] at h4
      rcases Nat.mul_eq_zero.1 h4 with h | h
      · exact h
      · have := Nat.two_pow_pos (p + 1074).toNat; omega
    rw [e3 hm]
    unfold sg
    cases s <;> simp

theorem f2i_key {a : Option Nat} {i : Int} (ha : okey a = some i) (h0 : 0 ≤ i) (h8 : i ≤ 4620693217682128896) : ∃ n, f2i .i64 a = some n ∧ -8 ≤ n ∧ n ≤ 8 := by
  obtain ⟨x, s, m, p, rfl, h1, h2, h3, h4, h5, h6⟩ := fin_read ha (by omega)
  generalize hK : (1074 : Nat) = K
  have hv : m * 2 ^ (p + 1074).toNat ≤ 8 * 2 ^ K := by
    rw [h4, ← hK]
    refine Nat.le_trans (rval_mono (show i.natAbs ≤ 4620693217682128896 by omega)) ?_
    exact Nat.le_of_eq (by kernel_rfl)
  have hn : m <<< p.toNat ≤ 8 * 2 ^ (-p).toNat := by
    rw [Nat.shiftLeft_eq]
    have a1 := Nat.mul_le_mul_right (2 ^ (-p).toNat) hv
    have e1 : m * 2 ^ (p + 1074).toNat * 2 ^ (-p).toNat = m * 2 ^ p.toNat * 2 ^ K := by
      rw [Nat.mul_assoc, ← Nat.pow_add, Nat.mul_assoc, ← Nat.pow_add, show (p + 1074).toNat + (-p).toNat = p.toNat + K by omega]
    have e2 : 8 * 2 ^ K * 2 ^ (-p).toNat = 8 * 2 ^ (-p).toNat * 2 ^ K := by rw [Nat.mul_assoc, Nat.mul_comm (2 ^ K), ← Nat.mul_assoc]
    rw [e1, e2] at a1
    exact Nat.le_of_mul_le_mul_right a1 (Nat.two_pow_pos _)
  have hc : Ieee.Toward.zero.cut s (m <<< p.toNat) (-p).toNat ≤ 8 := by
    generalize m <<< p.toNat = N at hn
    generalize (-p).toNat = d at hn
    show N / (1 <<< min d (N.log2 + 2)) + (false).toNat ≤ 8
    rw [Nat.one_shiftLeft, Bool.toNat_false, Nat.add_zero]
    rcases Nat.lt_or_ge (N.log2 + 2) d with h | h
    · rw [Nat.min_eq_right (Nat.le_of_lt h)]
      have b1 : N < 2 ^ (N.log2 + 1) := Nat.lt_log2_self
      have b3 : 2 ^ (N.log2 + 2) = 2 ^ (N.log2 + 1) * 2 := Nat.pow_succ ..
      rw [Nat.div_eq_of_lt (by omega)]; omega
    · rw [Nat.min_eq_left h, Nat.div_le_iff_le_mul_add_pred (Nat.two_pow_pos _)]
      have : 8 * 2 ^ d = 2 ^ d * 8 := Nat.mul_comm ..
      omega
  have hi : (FloatKind.f64.decode x).toInt .zero = some (sg s (Ieee.Toward.zero.cut s (m <<< p.toNat) (-p).toNat)) := by
    show (FF.read x).toInt .zero = _
    rw [h1]
    show some (Ieee.signed s _ 0) = _
    rw [signed_eq, Nat.pow_zero, Nat.mul_one]
  unfold f2i
  simp only [hi]
  generalize Ieee.Toward.zero.cut s (m <<< p.toNat) (-p).toNat = c at hc hi
  have hb : -8 ≤ sg s c ∧ sg s c ≤ 8 := by unfold sg; cases s <;> simp <;> omega
  have r1 : (IntKind.i64).min = -9223372036854775808 := by decide
  have r2 : (IntKind.i64).max = 9223372036854775807 := by decide
  rw [r1, r2, if_pos (by omega)]
  exact ⟨_, rfl, hb⟩
end Go.Proofs.Pen
