/- A part of the proof that the law HitScans is true of every input: models of the functions that the law reaches, and what holds of them. -/
import Derived.Test.YtncgifjccpngfaaGreatPenKit0
import Derived.Test.YtncgifjccpngfaaGreatPenKit1
import Derived.Test.YtncgifjccpngfaaGreatPenKit2
import Derived.Test.YtncgifjccpngfaaGreatPenKit3
namespace Go.Proofs.Pen
open Go Go.Proofs

/-! ### Numbers in floats: no NaN -/
theorem signWeight_eq (f : Ieee.Format) : f.infRung + f.binade = f.signWeight := by
  have h : 0 < 2 ^ f.exponentBits := Nat.two_pow_pos _
  unfold Ieee.Format.infRung Ieee.Format.signWeight
  rw [Nat.pow_add, ← Nat.succ_mul]
  exact congrArg (· * f.binade) (by omega)

theorem read_word (f : Ieee.Format) (s : Bool) {rung : Nat} (h : rung ≤ f.infRung) : (f.read (f.word s rung)).isNaN = false := by
  have h1 := signWeight_eq f
  have h2 : 0 < f.binade := Nat.two_pow_pos _
  have e : f.word s rung % f.signWeight = rung := by
    unfold Ieee.Format.word
    split
    · rw [Nat.add_mod_left, Nat.mod_eq_of_lt (by omega)]
    · rw [Nat.mod_eq_of_lt (by omega)]
  unfold Ieee.Format.read
  simp only [e]
  split
  · rfl
  · split
    · rfl
    · split
      · rfl
      · omega

theorem read_write (f : Ieee.Format) (d : Ieee.Datum) (h : d.isNaN = false) : (f.read (f.write d)).isNaN = false := by
  cases d with
  | number s m e =>
    show (f.read (f.nearest s m e)).isNaN = false
    unfold Ieee.Format.nearest
    dsimp only
    split
    · exact read_word f s (Nat.zero_le _)
    · exact read_word f s (Nat.min_le_right ..)
  | infinity s => exact read_word f s (Nat.le_refl _)
  | nan s t => cases h

theorem order_self (f : Ieee.Format) (x : Nat) (h : (f.read x).isNaN = false) : f.order x x = some .eq := by
  unfold Ieee.Format.order
  cases e : f.read x with
  | number s m i => simp [Ieee.Datum.order, compare, compareOfLessAndEq]
  | infinity s => simp [Ieee.Datum.order, compare, compareOfLessAndEq]
  | nan s t => rw [e] at h; cases h

theorem quot_num (n k : Nat) {d : Ieee.Datum} (h : d.isNaN = false) (s : Bool) (i : Int) : ∃ r, d.quotient n (.number s (k + 1) i) = some r ∧ r.isNaN = false := by
  cases d with
  | number t m j => exact ⟨_, by simp only [Ieee.Datum.quotient]; rw [if_neg (by omega)], rfl⟩
  | infinity t => exact ⟨_, rfl, rfl⟩
  | nan t u => cases h

noncomputable def fz (n : Int) : Option Nat := fop BinOp.quo (some (FloatKind.f64.nearest n)) (some 4652218415073722368)

theorem fz_self (n : Int) : ford (fz n) (fz n) = some .eq := by
  have h0 : (FloatKind.f64.format.read (FloatKind.f64.nearest n)).isNaN = false := read_write FloatKind.f64.format (.number (n < 0) n.natAbs 0) rfl
  have e : ∃ s k i, FloatKind.f64.format.read 4652218415073722368 = .number s (k + 1) i := ⟨false, 4503599627370495, -42, by decide +kernel⟩
  obtain ⟨s, k, i, e⟩ := e
  obtain ⟨r, h1, h2⟩ := quot_num (FloatKind.f64.format.fractionBits + 2) k h0 s i
  have h3 : fz n = some (FloatKind.f64.format.write r) := by
    show FloatKind.f64.format.div _ _ = _
    unfold Ieee.Format.div
    rw [e, h1]; rfl
  rw [h3]
  exact order_self _ _ (read_write _ _ h2)

/-! ### Loops that count -/
theorem iter_count {σ : Type} {t : σ → T (Ex × σ)} (st : Nat → σ) {e : Ex} {z : σ} (he : e ≠ .normal) : ∀ (n k m : Nat), (∀ i, k ≤ i → i < k + n → (t (st i)).run = some (.normal, st (i + 1))) → (t (st (k + n))).run = some (e, z) → n < m → (iterT t m (st k)).run = some (e, z)
  | n, k, 0, _, _, hm => absurd hm (Nat.not_lt_zero _)
  | 0, k, m + 1, _, h2, _ => by
    rw [Nat.add_zero] at h2
    rw [iter_step h2]
    cases e <;> first | rfl | exact absurd rfl he
  | n + 1, k, m + 1, h1, h2, hm => by
    rw [iter_step (h1 k (Nat.le_refl _) (by omega))]
    exact iter_count st he n (k + 1) m (fun i a b => h1 i (by omega) (by omega)) (by rw [show k + 1 + n = k + (n + 1) by omega]; exact h2) (by omega)

theorem lget_nat {α : Type} (l : List α) {k : Nat} (h : k < l.length) : lget l (k : Int) = some l[k] := by
  unfold lget
  rw [if_neg (by omega), Int.toNat_natCast, List.getElem?_eq_getElem h]

theorem take_all {α : Type} (l : List α) (v : α) : List.take (l.length + 1) (List.take l.length l ++ [v]) = l ++ [v] := by
  rw [List.take_length, List.take_of_length_le (by simp)]

theorem map_take {α β : Type} (f : α → β) (l : List α) {k : Nat} (h : k < l.length) : (l.take (k + 1)).map f = (l.take k).map f ++ [f l[k]] := by
  rw [List.take_succ_eq_append_getElem h, List.map_append]; rfl

theorem W_succ {k : Nat} (h : k < 1000) : W ((k : Int) + 1) = ((k + 1 : Nat) : Int) := by
  rw [W_id (by omega) (by omega)]; omega

theorem room {n c : Nat} (h : n < 1000) (hc : c ≤ 1000) : (n + 1) * c ≤ most := by
  have : (n + 1) * c ≤ 1000 * 1000 := Nat.mul_le_mul (by omega) hc
  unfold most; omega
end Go.Proofs.Pen

namespace Go.Proofs.Pen
open Go Go.Proofs

/-! ### Floats by their rungs: exact operations -/
abbrev FF : Ieee.Format := FloatKind.f64.format
theorem ff_binade : FF.binade = 4503599627370496 := by decide +kernel
theorem ff_lp : FF.leastPlace = -1074 := by decide +kernel
theorem ff_inf : FF.infRung = 9218868437227405312 := by decide +kernel
theorem ff_sw : FF.signWeight = 9223372036854775808 := by decide +kernel
theorem ff_fb : FF.fractionBits = 52 := by decide +kernel

structure Can (m : Nat) (p : Int) : Prop where
  pos : 0 < m
  lt : m < 9007199254740992
  ge : -1074 ≤ p
  nrm : 4503599627370496 ≤ m ∨ p = -1074

def rungOf (m : Nat) (p : Int) : Nat := (p + 1074).toNat * 4503599627370496 + m

theorem two52 : (2 : Nat) ^ 52 = 4503599627370496 := by decide
theorem two53 : (2 : Nat) ^ 53 = 9007199254740992 := by decide

theorem log2_le {m : Nat} (h0 : 0 < m) (h : m < 9007199254740992) : m.log2 ≤ 52 := by
  have : m.log2 < 53 := (Nat.log2_lt (by omega)).2 (by rw [two53]; exact h)
  omega
theorem log2_norm {m : Nat} (h0 : 4503599627370496 ≤ m) (h : m < 9007199254740992) : m.log2 = 52 := by
  have h1 := log2_le (by omega) h
  have h2 : 52 ≤ m.log2 := (Nat.le_log2 (by omega)).2 (by rw [two52]; exact h0)
  omega
theorem log2_shift {m : Nat} (h0 : 0 < m) (k : Nat) : (m * 2 ^ k).log2 = m.log2 + k := by
  have hp : 0 < 2 ^ k := Nat.two_pow_pos k
  have hne : m * 2 ^ k ≠ 0 := Nat.mul_ne_zero (by omega) (by omega)
  rw [Nat.log2_eq_iff hne]
  have h1 : 2 ^ m.log2 ≤ m := Nat.log2_self_le (by omega)
  have h2 : m < 2 ^ (m.log2 + 1) := Nat.lt_log2_self
  constructor
  · rw [Nat.pow_add]; exact Nat.mul_le_mul_right _ h1
  · rw [show m.log2 + k + 1 = (m.log2 + 1) + k by omega, Nat.pow_add]
    exact Nat.mul_lt_mul_of_pos_right h2 hp

theorem cut_exact (s : Bool) (m k : Nat) (h0 : 0 < m) : Ieee.Toward.even.cut s (m * 2 ^ k) k = m := by
  have hp : 0 < 2 ^ k := Nat.two_pow_pos k
  unfold Ieee.Toward.cut
  have e : min k ((m * 2 ^ k).log2 + 2) = k := by rw [log2_shift h0]; omega
  simp only [e, Nat.one_shiftLeft, Nat.mul_div_cancel _ hp, Nat.mul_mod_left]
  have : ¬ (2 ^ k < 2 * 0) := by omega
  have h2 : ¬ (2 ^ k = 2 * 0) := by omega
  simp [this]

theorem near_up {m : Nat} {p : Int} (h : Can m p) (s : Bool) (k : Nat) : FF.nearest s (m * 2 ^ k) (p - k) = FF.word s (min (rungOf m p) 9218868437227405312) := by
  have hp : 0 < 2 ^ k := Nat.two_pow_pos k
  have hne : m * 2 ^ k ≠ 0 := Nat.mul_ne_zero (by have := h.pos; omega) (by omega)
  have hl := log2_shift h.pos k
  have hlast : max (p - k + ((m * 2 ^ k).log2 : Int) - (52 : Int)) (-1074) = p := by
    rw [hl]
    rcases h.nrm with h1 | h1
    · rw [log2_norm h1 h.lt]; have := h.ge; omega
    · have := log2_le h.pos h.lt; omega
  unfold Ieee.Format.nearest
  rw [if_neg hne]
  simp only [ff_fb, ff_lp, ff_binade, ff_inf]
  rw [show ((52 : Nat) : Int) = (52 : Int) from rfl, hlast]
  have e1 : (p - (k : Int) - p).toNat = 0 := by omega
  have e2 : (p - (p - (k : Int))).toNat = k := by omega
  rw [e1, e2, Nat.shiftLeft_zero, cut_exact s m k h.pos]
  unfold rungOf
  rw [show p - -1074 = p + 1074 by omega]

theorem near_dn {m : Nat} {p : Int} (j : Nat) (h : Can (m * 2 ^ j) p) (s : Bool) : FF.nearest s m (p + j) = FF.word s (min (rungOf (m * 2 ^ j) p) 9218868437227405312) := by
  have hp : 0 < 2 ^ j := Nat.two_pow_pos j
  have h0 : 0 < m := by
    rcases Nat.eq_zero_or_pos m with e | e
    · have := h.pos; rw [e, Nat.zero_mul] at this; omega
    · exact e
  have hl := log2_shift h0 j
  have hlast : max (p + j + (m.log2 : Int) - (52 : Int)) (-1074) = p := by
    rcases h.nrm with h1 | h1
    · have := log2_norm h1 h.lt; have := h.ge; omega
    · have := log2_le h.pos h.lt; omega
  unfold Ieee.Format.nearest
  rw [if_neg (by omega)]
  simp only [ff_fb, ff_lp, ff_binade, ff_inf]
  rw [show ((52 : Nat) : Int) = (52 : Int) from rfl, hlast]
  have e1 : (p + (j : Int) - p).toNat = j := by omega
  have e2 : (p - (p + (j : Int))).toNat = 0 := by omega
  rw [e1, e2, Nat.shiftLeft_eq]
  have := cut_exact s (m * 2 ^ j) 0 h.pos
  rw [Nat.pow_zero, Nat.mul_one] at this
  rw [this]
  unfold rungOf
  rw [show p - -1074 = p + 1074 by omega]

theorem word_parts (s : Bool) {r : Nat} (h : r < 9223372036854775808) : (FF.word s r / FF.signWeight % 2 == 1) = s ∧ FF.word s r % FF.signWeight = r := by
  rw [ff_sw]
  unfold Ieee.Format.word
  rw [ff_sw]
  cases s with
  | false =>
    simp only [Bool.false_eq_true, if_false]
    rw [Nat.div_eq_of_lt h, Nat.mod_eq_of_lt h]; simp
  | true =>
    simp only [if_true]
    have e1 : (9223372036854775808 + r) / 9223372036854775808 = 1 := by omega
    have e2 : (9223372036854775808 + r) % 9223372036854775808 = r := by omega
    rw [e1, e2]; simp

theorem read_can {m : Nat} {p : Int} (h : Can m p) (hr : rungOf m p < 9218868437227405312) (s : Bool) : FF.read (FF.word s (rungOf m p)) = .number s m p := by
  obtain ⟨e1, e2⟩ := word_parts s (r := rungOf m p) (by omega)
  unfold Ieee.Format.read
  simp only [e1, e2, ff_binade, ff_inf, ff_lp]
  have hq : ((p + 1074).toNat : Int) = p + 1074 := by have := h.ge; omega
  by_cases hm : 4503599627370496 ≤ m
  · have hlt := h.lt
    have hmul : rungOf m p = (p + 1074).toNat * 4503599627370496 + m := rfl
    generalize (p + 1074).toNat = q at *
    rw [if_neg (by omega), if_pos hr]
    have e3 : rungOf m p % 4503599627370496 = m - 4503599627370496 := by rw [hmul]; omega
    have e4 : rungOf m p / 4503599627370496 = q + 1 := by rw [hmul]; omega
    have a1 : 4503599627370496 + (m - 4503599627370496) = m := by omega
    have a2 : (-1074 : Int) + ((q + 1 - 1 : Nat) : Int) = p := by omega
    rw [e3, e4, a1, a2]
  · have hp : p = -1074 := by rcases h.nrm with h1 | h1; omega; exact h1
    subst hp
    have : rungOf m (-1074) = m := by unfold rungOf; simp
    rw [this, if_pos (by omega)]

theorem can_of {r : Nat} (h0 : 0 < r) (_h : r < 9218868437227405312) : ∃ m p, Can m p ∧ rungOf m p = r := by
  by_cases h1 : r < 4503599627370496
  · exact ⟨r, -1074, ⟨h0, by omega, by omega, .inr rfl⟩, by unfold rungOf; simp⟩
  · refine ⟨4503599627370496 + r % 4503599627370496, -1074 + (r / 4503599627370496 - 1 : Nat), ⟨by omega, by omega, by omega, .inl (by omega)⟩, ?_⟩
    unfold rungOf
    have : (-1074 + ((r / 4503599627370496 - 1 : Nat) : Int) + 1074).toNat = r / 4503599627370496 - 1 := by omega
    rw [this]; omega

theorem read_num {r : Nat} {m : Nat} {p : Int} (h : Can m p) (e : rungOf m p = r) (hr : r < 9218868437227405312) : FF.read r = .number false m p := by
  have := read_can h (by rw [e]; exact hr) false
  rw [e] at this
  exact this

/-! Powers of two. -/
theorem can_pow {p : Int} (h : -1074 ≤ p) : Can 4503599627370496 p := ⟨by omega, by omega, h, .inl (by omega)⟩
theorem read_2 : FF.read 4611686018427387904 = .number false 4503599627370496 (-51) := read_num (can_pow (by omega)) (by decide) (by omega)
theorem read_1 : FF.read 4607182418800017408 = .number false 4503599627370496 (-52) := read_num (can_pow (by omega)) (by decide) (by omega)
theorem read_52 : FF.read 4841369599423283200 = .number false 4503599627370496 0 := read_num (can_pow (by omega)) (by decide) (by omega)

/-- Twice. -/
def dbl (r : Nat) : Nat := if r < 4503599627370496 then 2 * r else r + 4503599627370496

theorem mul2 {r : Nat} (h0 : 0 < r) (h : r < 9214364837600034816) : fop .mul (some r) (some 4611686018427387904) = some (dbl r) := by
  obtain ⟨m, p, hc, e⟩ := can_of h0 (by omega)
  show FF.mul r 4611686018427387904 = _
  unfold Ieee.Format.mul
  rw [read_num hc e (by omega), read_2]
  simp only [Ieee.Datum.product, Option.map_some, Ieee.Format.write, Option.some.injEq, Bool.xor_false]
  have hw : ∀ x, FF.word false x = x := fun x => rfl
  by_cases hm : 4503599627370496 ≤ m
  · have hc2 : Can m (p + 1) := ⟨hc.pos, hc.lt, by have := hc.ge; omega, .inl hm⟩
    have := near_up hc2 false 52
    rw [two52] at this
    have a2 : p + -51 = p + 1 - ((52 : Nat) : Int) := by omega
    rw [a2, this, hw]
    have e2 : rungOf m (p + 1) = rungOf m p + 4503599627370496 := by
      unfold rungOf
      have := hc.ge
      rw [show (p + 1 + 1074).toNat = (p + 1074).toNat + 1 by omega]; omega
    have : ¬ r < 4503599627370496 := by rw [← e]; unfold rungOf; omega
    rw [e2, e]; unfold dbl; rw [if_neg this]; omega
  · have hp : p = -1074 := by rcases hc.nrm with h1 | h1; omega; exact h1
    subst hp
    have er : rungOf m (-1074) = m := by unfold rungOf; simp
    rw [er] at e; subst e
    have hc2 : Can (2 * m) (-1074) := ⟨by omega, by omega, by omega, .inr rfl⟩
    have := near_up hc2 false 51
    rw [show (2 : Nat) ^ 51 = 2251799813685248 by decide] at this
    have a1 : m * 4503599627370496 = 2 * m * 2251799813685248 := by omega
    have a2 : (-1074 : Int) + -51 = -1074 - ((51 : Nat) : Int) := by decide
    rw [a1, a2, this, hw]
    have er2 : rungOf (2 * m) (-1074) = 2 * m := by unfold rungOf; simp
    rw [er2]; unfold dbl; rw [if_pos (by omega)]; omega

/-- Where a number stands to a power of two. -/
theorem ord_pow {r : Nat} (h0 : 0 < r) (h : r < 9218868437227405312) {c : Nat} {q : Int} (hq : -1074 ≤ q) (hc : c = rungOf 4503599627370496 q) (hcl : c < 9218868437227405312) :
    ((ford (some r) (some c) == some .lt) = decide (r < c)) ∧ ((ford (some r) (some c) == some .gt || ford (some r) (some c) == some .eq) = decide (c ≤ r)) := by
  obtain ⟨m, p, hcan, e⟩ := can_of h0 h
  have hlt := hcan.lt
  have hge := hcan.ge
  have key : ∃ o, ford (some r) (some c) = some o ∧ (o = .lt ↔ r < c) := by
    show ∃ o, FF.order r c = some o ∧ _
    unfold Ieee.Format.order
    rw [read_num hcan e h, read_num (can_pow hq) hc.symm hcl]
    refine ⟨_, rfl, ?_⟩
    show compare (Ieee.signed false m (p - min p q).toNat) (Ieee.signed false 4503599627370496 (q - min p q).toNat) = .lt ↔ _
    simp only [Ieee.signed, Bool.false_eq_true, if_false, Nat.shiftLeft_eq]
    rw [Int.compare_eq_lt]
    rw [Int.ofNat_lt]
    have hr : r = (p + 1074).toNat * 4503599627370496 + m := by rw [← e]; rfl
    have hcr : c = (q + 1074).toNat * 4503599627370496 + 4503599627370496 := by rw [hc]; rfl
    rcases Int.lt_or_le p q with h1 | h1
    · have e1 : (p - min p q).toNat = 0 := by omega
      obtain ⟨d, hd⟩ : ∃ d, (q - min p q).toNat = d + 1 := ⟨(q - min p q).toNat - 1, by omega⟩
      rw [e1, hd]
      have h2 : 0 < 2 ^ d := Nat.two_pow_pos d
      have h3 : (p + 1074).toNat + 1 ≤ (q + 1074).toNat := by omega
      have h4 : 4503599627370496 * 1 ≤ 4503599627370496 * 2 ^ d := Nat.mul_le_mul_left _ h2
      rw [Nat.pow_succ]
      constructor
      · intro _; omega
      · intro _; omega
    · have e1 : (q - min p q).toNat = 0 := by omega
      rw [e1]
      rcases hcan.nrm with hm | hp
      · have h2 : 0 < 2 ^ (p - min p q).toNat := Nat.two_pow_pos _
        have h4 : m * 1 ≤ m * 2 ^ (p - min p q).toNat := Nat.mul_le_mul_left _ h2
        have h3 : (q + 1074).toNat ≤ (p + 1074).toNat := by omega
        constructor
        · intro h5; omega
        · intro h5; omega
      · have hpq : q = p := by omega
        subst hpq
        have e2 : (q - min q q).toNat = 0 := by omega
        rw [e2]
        constructor
        · intro h5; omega
        · intro h5; omega
  obtain ⟨o, e1, e2⟩ := key
  rw [e1]
  constructor
  · by_cases hlt : r < c
    · rw [e2.2 hlt]; simp [hlt]
    · have : o ≠ .lt := fun e => hlt (e2.1 e)
      cases o <;> simp_all
  · by_cases hlt : r < c
    · rw [e2.2 hlt]; simp; omega
    · have : o ≠ .lt := fun e => hlt (e2.1 e)
      cases o <;> simp_all <;> omega

end Go.Proofs.Pen

namespace Go.Proofs.Pen
open Go Go.Proofs
theorem quot2 {m : Nat} {p : Int} (hm : 4503599627370496 ≤ m) (hlt : m < 9007199254740992) : (Ieee.Datum.number false m p).quotient 54 (.number false 4503599627370496 (-51)) = some (.number false (m * 8) (p - 4)) := by
  have hl2 : (4503599627370496 : Nat).log2 = 52 := log2_norm (Nat.le_refl _) (by omega)
  have hl1 := log2_norm hm hlt
  unfold Ieee.Datum.quotient
  simp only [hl1, hl2]
  have h0 : ¬ ((4503599627370496 : Nat) = 0) := by omega
  rw [if_neg h0]
  have e0 : 54 + 52 - 52 = 54 := rfl
  have e1 : m <<< 54 = m * 4 * 4503599627370496 := by rw [Nat.shiftLeft_eq]; omega
  have e2 : m * 4 * 4503599627370496 / 4503599627370496 = m * 4 := Nat.mul_div_cancel _ (by omega)
  have e3 : m * 4 * 4503599627370496 % 4503599627370496 = 0 := Nat.mul_mod_left _ _
  rw [e0, e1, e2, e3]
  have e4 : (2 * (m * 4) + ((0 : Nat) != 0).toNat) = m * 8 := by
    have : ((0 : Nat) != 0).toNat = 0 := rfl
    omega
  have e5 : p - -51 - ((54 : Nat) : Int) - 1 = p - 4 := by omega
  rw [e4, e5]; rfl

theorem half {r : Nat} (h0 : 9007199254740992 ≤ r) (h : r < 9218868437227405312) : fop .quo (some r) (some 4611686018427387904) = some (r - 4503599627370496) := by
  obtain ⟨m, p, hc, e⟩ := can_of (by omega) h
  have hlt := hc.lt
  have hge := hc.ge
  have hq : 1 ≤ (p + 1074).toNat := by
    apply Classical.byContradiction; intro hn
    have : (p + 1074).toNat = 0 := by omega
    unfold rungOf at e; rw [this] at e; omega
  have hm : 4503599627370496 ≤ m := by rcases hc.nrm with h1 | h1; exact h1; omega
  have h1 : FF.div r 4611686018427387904 = some (FF.nearest false (m * 8) (p - 4)) := by
    unfold Ieee.Format.div
    rw [read_num hc e (by omega), read_2, ff_fb, quot2 hm hlt]
    rfl
  have hc2 : Can m (p - 1) := ⟨hc.pos, hc.lt, by omega, .inl hm⟩
  have h2 := near_up hc2 false 3
  rw [show (2 : Nat) ^ 3 = 8 by decide] at h2
  have a2 : p - 4 = p - 1 - ((3 : Nat) : Int) := by omega
  have hw : ∀ x, FF.word false x = x := fun x => rfl
  rw [← a2, hw] at h2
  show FF.div r 4611686018427387904 = _
  rw [h1, h2]
  have e2 : rungOf m (p - 1) + 4503599627370496 = rungOf m p := by
    unfold rungOf
    rw [show (p + 1074).toNat = (p - 1 + 1074).toNat + 1 by omega]; omega
  have e3 : min (rungOf m (p - 1)) 9218868437227405312 = r - 4503599627370496 := by omega
  rw [e3]

/-! Numbers below a power of two, as a whole. -/
theorem can_frac {F : Nat} (h0 : 0 < F) (h : F < 4503599627370496) : F.log2 < 52 ∧ 4503599627370496 ≤ F * 2 ^ (52 - F.log2) ∧ F * 2 ^ (52 - F.log2) < 9007199254740992 := by
  have h1 : F.log2 < 52 := (Nat.log2_lt (by omega)).2 (by rw [two52]; exact h)
  have h2 : 2 ^ F.log2 ≤ F := Nat.log2_self_le (by omega)
  have h3 : F < 2 ^ (F.log2 + 1) := Nat.lt_log2_self
  have e1 : 2 ^ F.log2 * 2 ^ (52 - F.log2) = 4503599627370496 := by rw [← Nat.pow_add, show F.log2 + (52 - F.log2) = 52 by omega, two52]
  have e2 : 2 ^ (F.log2 + 1) * 2 ^ (52 - F.log2) = 9007199254740992 := by rw [← Nat.pow_add, show F.log2 + 1 + (52 - F.log2) = 53 by omega, two53]
  refine ⟨h1, ?_, ?_⟩
  · rw [← e1]; exact Nat.mul_le_mul_right _ h2
  · rw [← e2]; exact Nat.mul_lt_mul_of_pos_right h3 (Nat.two_pow_pos _)

theorem word_pos (x : Nat) : FF.word false x = x := rfl

theorem cut_zero_exact {F : Nat} (h0 : 0 < F) (j : Nat) : Ieee.Toward.zero.cut false (F * 2 ^ j) j = F := by
  have hp : 0 < 2 ^ j := Nat.two_pow_pos j
  unfold Ieee.Toward.cut
  have e : min j ((F * 2 ^ j).log2 + 2) = j := by rw [log2_shift h0]; omega
  simp only [e, Nat.one_shiftLeft, Nat.mul_div_cancel _ hp, Bool.toNat_false, Nat.add_zero]

theorem toInt_exact {F : Nat} (h0 : 0 < F) (j : Nat) : (Ieee.Datum.number false (F * 2 ^ j) (-(j : Int))).toInt .zero = some (F : Int) := by
  have e1 : (-(j : Int)).toNat = 0 := by omega
  have e2 : (- -(j : Int)).toNat = j := by omega
  simp only [Ieee.Datum.toInt, Ieee.Datum.integral, e1, e2, Nat.shiftLeft_zero, cut_zero_exact h0 j, Ieee.signed, Bool.false_eq_true, if_false]

theorem f2i_of {x : Nat} {F : Nat} {d : Ieee.Datum} (hd : FF.read x = d) (ht : d.toInt .zero = some (F : Int)) (h : F < 4503599627370496) : f2i .u64 (some x) = some (F : Int) := by
  have m1 : IntKind.u64.min = 0 := by decide
  have m2 : IntKind.u64.max = 18446744073709551615 := by decide
  have hd' : FloatKind.f64.decode x = d := hd
  simp only [f2i, hd', ht, m1, m2]
  rw [if_pos (by omega)]

theorem mul_52 {m : Nat} {p : Int} (hc : Can m p) (hn : 4503599627370496 ≤ m) (h : p ≤ -52) : fop .mul (some (rungOf m p)) (some 4841369599423283200) = some (rungOf m (p + 52)) := by
  have hge := hc.ge
  have hlt := hc.lt
  have hc2 : Can m (p + 52) := ⟨hc.pos, hlt, by omega, .inl hn⟩
  have hr : rungOf m p < 9218868437227405312 := by unfold rungOf; omega
  have hr2 : rungOf m (p + 52) < 9218868437227405312 := by unfold rungOf; omega
  have h2 := near_up hc2 false 52
  rw [two52, word_pos, Nat.min_eq_left (Nat.le_of_lt hr2)] at h2
  have a1 : p + 52 - ((52 : Nat) : Int) = p + 0 := by omega
  rw [a1] at h2
  have h3 : (Ieee.Datum.number false m p).product (.number false 4503599627370496 0) = some (.number false (m * 4503599627370496) (p + 0)) := by
    simp only [Ieee.Datum.product, Bool.xor_false]
  show FF.mul _ _ = _
  unfold Ieee.Format.mul
  rw [read_num hc rfl hr, read_52, h3, Option.map_some]
  simp only [Ieee.Format.write, h2]

/-- 2^52 times such a number is a whole number. -/
theorem mul52 {F : Nat} (h0 : 0 < F) (h : F < 4503599627370496) : f2i .u64 (fop .mul (some (rungOf (F * 2 ^ (52 - F.log2)) (-52 - ((52 - F.log2 : Nat) : Int)))) (some 4841369599423283200)) = some (F : Int) := by
  obtain ⟨c1, c2, c3⟩ := can_frac h0 h
  generalize hj : 52 - F.log2 = j at *
  have hj52 : j ≤ 52 := by omega
  have hc : Can (F * 2 ^ j) (-52 - (j : Int)) := ⟨by omega, c3, by omega, .inl c2⟩
  have hc2 : Can (F * 2 ^ j) (-(j : Int)) := ⟨by omega, c3, by omega, .inl c2⟩
  have hr2 : rungOf (F * 2 ^ j) (-(j : Int)) < 9218868437227405312 := by unfold rungOf; omega
  have h1 := mul_52 hc c2 (by omega)
  rw [show -52 - (j : Int) + 52 = -(j : Int) by omega] at h1
  rw [h1]
  exact f2i_of (read_num hc2 rfl hr2) (toInt_exact h0 j) h

/-- What a number from 1 on, below 2, has behind the point. -/
theorem frac52 {F : Nat} (h : F < 4503599627370496) : f2i .u64 (fop .mul (fop .sub (some (4607182418800017408 + F)) (some 4607182418800017408)) (some 4841369599423283200)) = some (F : Int) := by
  rcases Nat.eq_zero_or_pos F with rfl | h0
  · have e : f2i .u64 (fop .mul (fop .sub (some (4607182418800017408 + 0)) (some 4607182418800017408)) (some 4841369599423283200)) = some 0 := by decide +kernel
    simpa using e
  · have hs : fop .sub (some (4607182418800017408 + F)) (some 4607182418800017408) = some (rungOf (F * 2 ^ (52 - F.log2)) (-52 - ((52 - F.log2 : Nat) : Int))) := by
      have hc1 : Can (4503599627370496 + F) (-52) := ⟨by omega, by omega, by omega, .inl (by omega)⟩
      have hr1 : rungOf (4503599627370496 + F) (-52) = 4607182418800017408 + F := by
        unfold rungOf
        have : ((-52 : Int) + 1074).toNat = 1022 := by decide
        rw [this]; omega
      obtain ⟨c1, c2, c3⟩ := can_frac h0 h
      show FF.sub _ _ = _
      unfold Ieee.Format.sub
      rw [read_num hc1 hr1 (by omega), read_1]
      have hsum : (Ieee.Datum.number false (4503599627370496 + F) (-52)).sum (Ieee.Datum.number false 4503599627370496 (-52)).opposite = some (.number false F (-52)) := by
        unfold Ieee.Datum.opposite Ieee.Datum.sum
        have e0 : (-52 - min (-52 : Int) (-52)).toNat = 0 := by decide
        simp only [e0]
        have e1 : Ieee.signed false (4503599627370496 + F) 0 + Ieee.signed (!false) 4503599627370496 0 = (F : Int) := by
          simp only [Ieee.signed, Nat.shiftLeft_zero, Bool.not_false, if_true, Bool.false_eq_true, if_false]; omega
        rw [e1]
        have e2 : ¬ ((F : Int) = 0) := by omega
        have e3 : decide ((F : Int) < 0) = false := by simp
        rw [if_neg e2, e3]
        simp
      rw [hsum]
      show some (FF.nearest false F (-52)) = _
      generalize hj : 52 - F.log2 = j at *
      have hc : Can (F * 2 ^ j) (-52 - (j : Int)) := ⟨by omega, c3, by omega, .inl c2⟩
      have h2 := near_dn j hc false
      have a1 : -52 - (j : Int) + (j : Int) = -52 := by omega
      rw [a1] at h2
      rw [h2, word_pos]
      have : rungOf (F * 2 ^ j) (-52 - (j : Int)) ≤ 9218868437227405312 := by unfold rungOf; omega
      rw [Nat.min_eq_left this]
    rw [hs]
    exact mul52 h0 h
end Go.Proofs.Pen

namespace Go.Proofs.Pen
open Go Go.Proofs

/-! ### Signs -/
theorem read_zero (s : Bool) : FF.read (FF.word s 0) = .number s 0 (-1074) := by
  obtain ⟨e1, e2⟩ := word_parts s (r := 0) (by omega)
  unfold Ieee.Format.read
  simp only [e1, e2, ff_binade, ff_lp]
  rw [if_pos (by omega)]

/-- A finite number: its sign and its rung. -/
theorem read_fin (s : Bool) {r : Nat} (h : r < 9218868437227405312) : ∃ m p, FF.read (FF.word s r) = .number s m p ∧ (m = 0 ↔ r = 0) ∧ -1074 ≤ p ∧ (0 < r → Can m p ∧ rungOf m p = r) := by
  rcases Nat.eq_zero_or_pos r with rfl | h0
  · exact ⟨0, -1074, read_zero s, by simp, by omega, fun h => by omega⟩
  · obtain ⟨m, p, hc, e⟩ := can_of h0 h
    refine ⟨m, p, ?_, by have := hc.pos; omega, hc.ge, fun _ => ⟨hc, e⟩⟩
    have := read_can hc (by rw [e]; exact h) s
    rw [e] at this; exact this

theorem word_split {w : Nat} (h : w < 18446744073709551616) : ∃ s r, w = FF.word s r ∧ r < 9223372036854775808 := by
  by_cases h1 : w < 9223372036854775808
  · exact ⟨false, w, rfl, h1⟩
  · refine ⟨true, w - 9223372036854775808, ?_, by omega⟩
    show w = FF.signWeight + _
    rw [ff_sw]; omega

/-- No number. -/
theorem not_number (s : Bool) {r : Nat} (h1 : 9218868437227405312 ≤ r) (h2 : r < 9223372036854775808) : fop .sub (some (FF.word s r)) (some (FF.word s r)) = none := by
  obtain ⟨e1, e2⟩ := word_parts s h2
  show FF.sub _ _ = none
  unfold Ieee.Format.sub
  have : (FF.read (FF.word s r) = .infinity s) ∨ ∃ t, FF.read (FF.word s r) = .nan s t := by
    unfold Ieee.Format.read
    simp only [e1, e2, ff_binade, ff_inf, ff_lp]
    rw [if_neg (by omega), if_neg (by omega)]
    by_cases h : r = 9218868437227405312
    · rw [if_pos h]; exact .inl rfl
    · rw [if_neg h]; exact .inr ⟨_, rfl⟩
  rcases this with e | ⟨t, e⟩
  · rw [e]
    cases s <;> rfl
  · rw [e]
    cases s <;> rfl

theorem ff0 : FF.read 0 = .number false 0 (-1074) := read_zero false

theorem ord_zero (s : Bool) {r : Nat} (h : r < 9218868437227405312) : ford (some (FF.word s r)) (some 0) = some (if r = 0 then .eq else if s then .lt else .gt) := by
  obtain ⟨m, p, e, hm, hp, _⟩ := read_fin s h
  show FF.order _ _ = _
  unfold Ieee.Format.order
  rw [e, ff0]
  simp only [Ieee.Datum.order]
  have e0 : ∀ k, Ieee.signed false 0 k = 0 := fun k => by simp [Ieee.signed]
  rw [e0]
  by_cases hr : r = 0
  · have := hm.2 hr; subst this
    rw [if_pos hr]
    cases s <;> simp [Ieee.signed, compare, compareOfLessAndEq]
  · rw [if_neg hr]
    have hm' : 0 < m := by
      rcases Nat.eq_zero_or_pos m with h0 | h0
      · exact absurd (hm.1 h0) hr
      · exact h0
    have hpos : 0 < m <<< (p - min p (-1074)).toNat := by
      rw [Nat.shiftLeft_eq]; exact Nat.mul_pos hm' (Nat.two_pow_pos _)
    cases s with
    | false =>
      simp only [Ieee.signed, Bool.false_eq_true, if_false]
      generalize m <<< (p - min p (-1074)).toNat = z at hpos ⊢
      exact congrArg some (Int.compare_eq_gt.2 (by omega))
    | true =>
      simp only [Ieee.signed, if_true]
      generalize m <<< (p - min p (-1074)).toNat = z at hpos ⊢
      exact congrArg some (Int.compare_eq_lt.2 (by omega))

theorem is_number (s : Bool) {r : Nat} (h : r < 9218868437227405312) : ford (fop .sub (some (FF.word s r)) (some (FF.word s r))) (some 0) = some .eq := by
  obtain ⟨m, p, e, hm, hp, _⟩ := read_fin s h
  have h1 : fop .sub (some (FF.word s r)) (some (FF.word s r)) = some (FF.word false 0) := by
    show FF.sub _ _ = _
    unfold Ieee.Format.sub
    rw [e]
    have h2 : (Ieee.Datum.number s m p).sum (Ieee.Datum.number s m p).opposite = some (.number false 0 (min p p)) := by
      unfold Ieee.Datum.opposite Ieee.Datum.sum
      have e0 : ∀ k, Ieee.signed s m k + Ieee.signed (!s) m k = 0 := fun k => by
        cases s <;> simp [Ieee.signed] <;> omega
      simp only [e0]
      cases s <;> simp
    rw [h2]
    simp only [Option.map_some, Ieee.Format.write, Ieee.Format.nearest, if_true]
  rw [h1]
  have := ord_zero false (r := 0) (by omega)
  rw [if_pos rfl] at this; exact this

theorem neg_pos {r : Nat} (h0 : 0 < r) (h : r < 9218868437227405312) : fop .sub (some 0) (some (FF.word true r)) = some r := by
  obtain ⟨m, p, e, _, hp, hc⟩ := read_fin true h
  obtain ⟨hc, er⟩ := hc h0
  show FF.sub _ _ = _
  unfold Ieee.Format.sub
  rw [e, ff0]
  have h2 : (Ieee.Datum.number false 0 (-1074)).sum (Ieee.Datum.number true m p).opposite = some (.number false (m * 2 ^ (p + 1074).toNat) (-1074)) := by
    unfold Ieee.Datum.opposite Ieee.Datum.sum
    have e1 : min (-1074 : Int) p = -1074 := by omega
    have e2 : (p - -1074).toNat = (p + 1074).toNat := by omega
    simp only [e1, e2]
    have hpos : 0 < m * 2 ^ (p + 1074).toNat := Nat.mul_pos hc.pos (Nat.two_pow_pos _)
    have e3 : Ieee.signed false 0 (-1074 - -1074 : Int).toNat + Ieee.signed (!true) m (p + 1074).toNat = ((m * 2 ^ (p + 1074).toNat : Nat) : Int) := by
      simp [Ieee.signed, Nat.shiftLeft_eq]
    rw [e3]
    generalize m * 2 ^ (p + 1074).toNat = z at *
    have e4 : ¬ ((z : Int) = 0) := by omega
    have e5 : decide ((z : Int) < 0) = false := by simp
    rw [if_neg e4, e5]
    simp
  rw [h2]
  have h3 := near_up hc false (p + 1074).toNat
  have a1 : p - ((p + 1074).toNat : Int) = -1074 := by omega
  rw [a1, er, word_pos, Nat.min_eq_left (by omega)] at h3
  show some (FF.nearest false _ _) = _
  rw [h3]

theorem inv_zero (s : Bool) : fop .quo (some 4607182418800017408) (some (FF.word s 0)) = some (FF.word s 9218868437227405312) := by
  cases s <;> decide +kernel
theorem ord_inf (s : Bool) : ford (some (FF.word s 9218868437227405312)) (some 0) = some (if s then .lt else .gt) := by
  cases s <;> decide +kernel
theorem neg_zero : fop .sub (some 0) (some (FF.word true 0)) = some 0 := by decide +kernel
theorem ord_00 : ford (some 0) (some 0) = some .eq := by decide +kernel
end Go.Proofs.Pen

namespace Go.Proofs.Pen
open Go Go.Proofs

/-! ### The order of floats, by whole numbers -/
def fsgn (x : Nat) : Bool := x / 9223372036854775808 % 2 == 1
def frung (x : Nat) : Nat := x % 9223372036854775808
def sg (s : Bool) (n : Nat) : Int := if s then -(n : Int) else n
def fkey (x : Nat) : Int := sg (fsgn x) (frung x)


/-- The value of a rung, in least places. -/
def rval (r : Nat) : Nat := if r < 4503599627370496 then r else (4503599627370496 + r % 4503599627370496) * 2 ^ (r / 4503599627370496 - 1)

theorem rval_lt {r r' : Nat} (h : r < r') : rval r < rval r' := by
  unfold rval
  by_cases h1 : r' < 4503599627370496
  · rw [if_pos h1, if_pos (by omega)]; exact h
  · rw [if_neg h1]
    by_cases h2 : r < 4503599627370496
    · rw [if_pos h2]
      have h3 : 1 ≤ 2 ^ (r' / 4503599627370496 - 1) := Nat.one_le_two_pow
      have h4 := Nat.mul_le_mul_left (4503599627370496 + r' % 4503599627370496) h3
      omega
    · rw [if_neg h2]
      have hq : r / 4503599627370496 ≤ r' / 4503599627370496 := Nat.div_le_div_right (by omega)
      rcases Nat.lt_or_ge (r / 4503599627370496) (r' / 4503599627370496) with h3 | h3
      · have e : r' / 4503599627370496 - 1 = (r / 4503599627370496 - 1) + 1 + (r' / 4503599627370496 - 1 - (r / 4503599627370496 - 1) - 1) := by omega
        rw [e, Nat.pow_add, Nat.pow_succ]
        generalize r' / 4503599627370496 - 1 - (r / 4503599627370496 - 1) - 1 = k
        have hk : 1 ≤ 2 ^ k := Nat.one_le_two_pow
        have ha : 0 < 2 ^ (r / 4503599627370496 - 1) := Nat.two_pow_pos _
        generalize 2 ^ (r / 4503599627370496 - 1) = a at *
        generalize 2 ^ k = b at *
        have h5 : r % 4503599627370496 < 4503599627370496 := Nat.mod_lt _ (by omega)
        generalize r % 4503599627370496 = c at *
        generalize r' % 4503599627370496 = d at *
        calc (4503599627370496 + c) * a < (2 * 4503599627370496) * a := Nat.mul_lt_mul_of_pos_right (by omega) ha
          _ = 4503599627370496 * (a * 2) := by rw [Nat.mul_comm a 2, ← Nat.mul_assoc, Nat.mul_comm 4503599627370496 2]
          _ ≤ (4503599627370496 + d) * (a * 2) := Nat.mul_le_mul_right _ (by omega)
          _ = (4503599627370496 + d) * (a * 2 * 1) := by rw [Nat.mul_one]
          _ ≤ (4503599627370496 + d) * (a * 2 * b) := Nat.mul_le_mul_left _ (Nat.mul_le_mul_left _ hk)
      · have e : r / 4503599627370496 = r' / 4503599627370496 := by omega
        rw [e]
        exact Nat.mul_lt_mul_of_pos_right (by omega) (Nat.two_pow_pos _)

theorem rval_inj {r r' : Nat} : (rval r < rval r' ↔ r < r') ∧ (rval r = rval r' ↔ r = r') := by
  rcases Nat.lt_trichotomy r r' with h | h | h
  · have := rval_lt h; omega
  · subst h; simp
  · have := rval_lt h; omega
theorem rval_zero : rval 0 = 0 := rfl

/-- What a finite word stands for. -/
theorem read_val (x : Nat) (h : frung x < 9218868437227405312) : ∃ m p, FF.read x = .number (fsgn x) m p ∧ -1074 ≤ p ∧ m * 2 ^ (p + 1074).toNat = rval (frung x) := by
  unfold Ieee.Format.read
  simp only [ff_binade, ff_inf, ff_lp, ff_sw]
  unfold frung at h
  unfold rval frung fsgn
  by_cases h1 : x % 9223372036854775808 < 4503599627370496
  · rw [if_pos h1, if_pos h1]
    exact ⟨_, _, rfl, by omega, by simp⟩
  · rw [if_neg h1, if_neg h1, if_pos h]
    refine ⟨_, _, rfl, by omega, ?_⟩
    congr 2
    omega
theorem read_inf (x : Nat) (h : frung x = 9218868437227405312) : FF.read x = .infinity (fsgn x) := by
  unfold Ieee.Format.read
  simp only [ff_binade, ff_inf, ff_lp, ff_sw]
  unfold frung at h
  rw [if_neg (by omega), if_neg (by omega), if_pos h]
  rfl
theorem read_noN (x : Nat) (h : 9218868437227405312 < frung x) : ∃ t, FF.read x = .nan (fsgn x) t := by
  unfold Ieee.Format.read
  simp only [ff_binade, ff_inf, ff_lp, ff_sw]
  unfold frung at h
  rw [if_neg (by omega), if_neg (by omega), if_neg (by omega)]
  exact ⟨_, rfl⟩

theorem signed_eq (s : Bool) (m u : Nat) : Ieee.signed s m u = sg s (m * 2 ^ u) := by
  unfold Ieee.signed sg
  rw [Nat.shiftLeft_eq]
theorem sg_mul (s : Bool) (n k : Nat) : sg s (n * k) = sg s n * k := by
  unfold sg; split
  · rw [Int.natCast_mul, Int.neg_mul]
  · rw [Int.natCast_mul]
theorem compare_mul (a b : Int) (k : Nat) (h : 0 < k) : compare (a * k) (b * k) = compare a b := by
  have hk : (0 : Int) < k := by omega
  rcases Int.lt_trichotomy a b with h1 | h1 | h1
  · rw [Int.compare_eq_lt.2 h1, Int.compare_eq_lt.2 (Int.mul_lt_mul_of_pos_right h1 hk)]
  · subst h1; simp
  · rw [Int.compare_eq_gt.2 h1, Int.compare_eq_gt.2 (Int.mul_lt_mul_of_pos_right h1 hk)]

/-- The order of two numbers, at any place below both. -/
theorem order_num (s t : Bool) (m n : Nat) (i j : Int) (hi : -1074 ≤ i) (hj : -1074 ≤ j) :
    (Ieee.Datum.number s m i).order (.number t n j) = some (compare (sg s (m * 2 ^ (i + 1074).toNat)) (sg t (n * 2 ^ (j + 1074).toNat))) := by
  simp only [Ieee.Datum.order, signed_eq]
  have e1 : (i + 1074).toNat = (i - min i j).toNat + (min i j + 1074).toNat := by omega
  have e2 : (j + 1074).toNat = (j - min i j).toNat + (min i j + 1074).toNat := by omega
  rw [e1, e2, Nat.pow_add, Nat.pow_add, ← Nat.mul_assoc, ← Nat.mul_assoc, sg_mul s (m * _), sg_mul t (n * _), compare_mul _ _ _ (Nat.two_pow_pos _)]

theorem compare_sg (s t : Bool) (r r' : Nat) : compare (sg s (rval r)) (sg t (rval r')) = compare (sg s r) (sg t r') := by
  have h0 : ∀ r, rval r = 0 ↔ r = 0 := fun r => by have := (rval_inj (r := r) (r' := 0)).2; rwa [rval_zero] at this
  have := rval_inj (r := r) (r' := r')
  have := h0 r
  have := h0 r'
  generalize rval r = a at *
  generalize rval r' = b at *
  have key : ∀ x y z w : Int, (x < y ↔ z < w) → (x = y ↔ z = w) → compare x y = compare z w := fun x y z w h1 h2 => by
    rcases Int.lt_trichotomy x y with h | h | h
    · rw [Int.compare_eq_lt.2 h, Int.compare_eq_lt.2 (h1.1 h)]
    · rw [Int.compare_eq_eq.2 h, Int.compare_eq_eq.2 (h2.1 h)]
    · rw [Int.compare_eq_gt.2 h, Int.compare_eq_gt.2 (by omega)]
  apply key
  · cases s <;> cases t <;> simp only [sg, if_true, Bool.false_eq_true, if_false] <;> omega
  · cases s <;> cases t <;> simp only [sg, if_true, Bool.false_eq_true, if_false] <;> omega

theorem order_key {x y : Nat} (hx : frung x ≤ 9218868437227405312) (hy : frung y ≤ 9218868437227405312) : FF.order x y = some (compare (fkey x) (fkey y)) := by
  unfold Ieee.Format.order fkey
  rcases Nat.lt_or_ge (frung x) 9218868437227405312 with h1 | h1
  · obtain ⟨m, i, e1, hi, v1⟩ := read_val x h1
    rcases Nat.lt_or_ge (frung y) 9218868437227405312 with h2 | h2
    · obtain ⟨n, j, e2, hj, v2⟩ := read_val y h2
      rw [e1, e2, order_num _ _ _ _ _ _ hi hj, v1, v2, compare_sg]
    · have h2 : frung y = 9218868437227405312 := by omega
      rw [e1, read_inf y h2, h2]
      simp only [Ieee.Datum.order]
      unfold sg
      cases fsgn y
      · simp only [Bool.false_eq_true, if_false]
        refine congrArg some (Int.compare_eq_lt.2 ?_).symm
        split <;> omega
      · simp only [if_true]
        refine congrArg some (Int.compare_eq_gt.2 ?_).symm
        split <;> omega
  · have h1 : frung x = 9218868437227405312 := by omega
    rcases Nat.lt_or_ge (frung y) 9218868437227405312 with h2 | h2
    · obtain ⟨n, j, e2, hj, v2⟩ := read_val y h2
      rw [e2, read_inf x h1, h1]
      simp only [Ieee.Datum.order]
      unfold sg
      cases fsgn x
      · simp only [Bool.false_eq_true, if_false]
        refine congrArg some (Int.compare_eq_gt.2 ?_).symm
        split <;> omega
      · simp only [if_true]
        refine congrArg some (Int.compare_eq_lt.2 ?_).symm
        split <;> omega
    · have h2 : frung y = 9218868437227405312 := by omega
      rw [read_inf x h1, read_inf y h2, h1, h2]
      cases fsgn x <;> cases fsgn y <;> decide

/-- A float's number; 'none': it is no number. -/
def okey : Option Nat → Option Int
  | some x => if frung x ≤ 9218868437227405312 then some (fkey x) else none
  | none => none

theorem ford_key (a b : Option Nat) : ford a b = match okey a, okey b with
    | some i, some j => some (compare i j)
    | _, _ => none := by
  cases a with
  | none => cases b <;> rfl
  | some x =>
    cases b with
    | none => simp only [okey]; (split; · rename_i h1 h2; cases h2); rfl
    | some y =>
      show FF.order x y = _
      simp only [okey]
      by_cases h1 : frung x ≤ 9218868437227405312
      · by_cases h2 : frung y ≤ 9218868437227405312
        · rw [if_pos h1, if_pos h2, order_key h1 h2]
        · obtain ⟨t, e⟩ := read_noN y (by omega)
          rw [if_pos h1, if_neg h2]
          unfold Ieee.Format.order
          rw [e]
          cases FF.read x <;> rfl
      · obtain ⟨t, e⟩ := read_noN x (by omega)
        rw [if_neg h1]
        unfold Ieee.Format.order
        rw [e]
        rfl
theorem ford_some {a b : Option Nat} {i j : Int} (ha : okey a = some i) (hb : okey b = some j) : ford a b = some (compare i j) := by rw [ford_key, ha, hb]
theorem ford_none1 {a : Option Nat} (b : Option Nat) (ha : okey a = none) : ford a b = none := by rw [ford_key, ha]
theorem ford_none2 (a : Option Nat) {b : Option Nat} (hb : okey b = none) : ford a b = none := by rw [ford_key, hb]; cases okey a <;> rfl

/-- Comparisons, by numbers. -/
def klt : Option Int → Option Int → Bool
  | some i, some j => decide (i < j)
  | _, _ => false
def kle : Option Int → Option Int → Bool
  | some i, some j => decide (i ≤ j)
  | _, _ => false
def keq : Option Int → Option Int → Bool
  | some i, some j => decide (i = j)
  | _, _ => false
theorem ford_lt (a b : Option Nat) : (ford a b == some .lt) = klt (okey a) (okey b) := by
  rw [ford_key]
  cases okey a <;> cases okey b <;> try rfl
  rename_i i j
  show (some (compare i j) == some Ordering.lt) = decide (i < j)
  rcases Int.lt_trichotomy i j with h | h | h
  · rw [Int.compare_eq_lt.2 h, decide_eq_true h]; rfl
  · rw [Int.compare_eq_eq.2 h, decide_eq_false (by omega)]; rfl
  · rw [Int.compare_eq_gt.2 h, decide_eq_false (by omega)]; rfl
theorem ford_gt (a b : Option Nat) : (ford a b == some .gt) = klt (okey b) (okey a) := by
  rw [ford_key]
  cases okey a <;> cases okey b <;> try rfl
  rename_i i j
  show (some (compare i j) == some Ordering.gt) = decide (j < i)
  rcases Int.lt_trichotomy i j with h | h | h
  · rw [Int.compare_eq_lt.2 h, decide_eq_false (by omega)]; rfl
  · rw [Int.compare_eq_eq.2 h, decide_eq_false (by omega)]; rfl
  · rw [Int.compare_eq_gt.2 h, decide_eq_true h]; rfl
theorem ford_eqk (a b : Option Nat) : (ford a b == some .eq) = keq (okey a) (okey b) := by
  rw [ford_key]
  cases okey a <;> cases okey b <;> try rfl
  rename_i i j
  show (some (compare i j) == some Ordering.eq) = decide (i = j)
  rcases Int.lt_trichotomy i j with h | h | h
  · rw [Int.compare_eq_lt.2 h, decide_eq_false (by omega)]; rfl
  · rw [Int.compare_eq_eq.2 h, decide_eq_true h]; rfl
  · rw [Int.compare_eq_gt.2 h, decide_eq_false (by omega)]; rfl
theorem ford_le (a b : Option Nat) : (ford a b == some .lt || ford a b == some .eq) = kle (okey a) (okey b) := by
  rw [ford_lt, ford_eqk]
  cases okey a <;> cases okey b <;> try rfl
  rename_i i j
  simp only [klt, keq, kle]
  by_cases h : i ≤ j
  · rw [decide_eq_true h]
    rcases Int.lt_or_eq_of_le h with h1 | h1
    · rw [decide_eq_true h1]; rfl
    · rw [decide_eq_true h1]; simp
  · rw [decide_eq_false h, decide_eq_false (by omega), decide_eq_false (by omega)]; rfl
theorem ford_ge (a b : Option Nat) : (ford a b == some .gt || ford a b == some .eq) = kle (okey b) (okey a) := by
  rw [ford_gt, ford_eqk]
  cases okey a <;> cases okey b <;> try rfl
  rename_i i j
  simp only [klt, keq, kle]
  by_cases h : j ≤ i
  · rw [decide_eq_true h]
    rcases Int.lt_or_eq_of_le h with h1 | h1
    · rw [decide_eq_true h1]; rfl
    · rw [decide_eq_true h1.symm]; simp
  · rw [decide_eq_false h, decide_eq_false (by omega), decide_eq_false (by omega)]; rfl
end Go.Proofs.Pen

namespace Go.Proofs.Pen
open Go Go.Proofs

/-! ### A loop that looks through a list -/
theorem iter_scan_from {σ α : Type} {t : σ → T (Ex × σ)} {l : List α} {good : α → Bool} {st zr : Nat → σ} {ze : σ} {er ee : Ex} (hstep : ∀ i (h : i < l.length), (t (st i)).run = some (if good l[i] then (.normal, st (i + 1)) else (er, zr i)))
    (hend : (t (st l.length)).run = some (ee, ze)) (her : er ≠ .normal) (hee : ee ≠ .normal) : ∀ (n k m : Nat), k + n = l.length → n < m →
      ((l.drop k).all good = true ∧ (iterT t m (st k)).run = some (ee, ze)) ∨ ((l.drop k).all good = false ∧ ∃ i, (iterT t m (st k)).run = some (er, zr i))
  | n, k, 0, _, hm => absurd hm (Nat.not_lt_zero _)
  | 0, k, m + 1, hk, _ => by
    have : k = l.length := by omega
    subst this
    refine .inl ⟨by simp, ?_⟩
    rw [iter_step hend]
    cases ee <;> first | rfl | exact absurd rfl hee
  | n + 1, k, m + 1, hk, hm => by
    have hlt : k < l.length := by omega
    have hs := hstep k hlt
    rw [List.drop_eq_getElem_cons hlt, List.all_cons]
    by_cases hg : good l[k] = true
    · rw [if_pos hg] at hs
      rw [hg, Bool.true_and, iter_step hs]
      exact iter_scan_from hstep hend her hee n (k + 1) m (by omega) (by omega)
    · rw [if_neg hg] at hs
      have : good l[k] = false := by simpa using hg
      rw [this]
      refine .inr ⟨rfl, k, ?_⟩
      rw [iter_step hs]
      cases er <;> first | rfl | exact absurd rfl her

theorem iter_scan {σ α : Type} {t : σ → T (Ex × σ)} (l : List α) (good : α → Bool) (st zr : Nat → σ) (ze : σ) (er ee : Ex) (hstep : ∀ i (h : i < l.length), (t (st i)).run = some (if good l[i] then (.normal, st (i + 1)) else (er, zr i)))
    (hend : (t (st l.length)).run = some (ee, ze)) (her : er ≠ .normal) (hee : ee ≠ .normal) {m : Nat} (hm : l.length < m) :
      (l.all good = true ∧ (iterT t m (st 0)).run = some (ee, ze)) ∨ (l.all good = false ∧ ∃ i, (iterT t m (st 0)).run = some (er, zr i)) :=
  iter_scan_from hstep hend her hee l.length 0 m (by omega) hm

end Go.Proofs.Pen
