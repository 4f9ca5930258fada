/- A part of the proof that the law BuildNone is true of every input: models of the functions that the law reaches, and what holds of them. -/
import Derived.Test.YtfkgoljaeggbmabDoorPenKit0
import Derived.Test.YtfkgoljaeggbmabDoorPenKit1
import Derived.Test.YtfkgoljaeggbmabDoorPenKit2
namespace Go.Proofs.Pen
open Go Go.Proofs

/-! ### Numbers in floats: no NaN -/
theorem signWeight_eq (f : Ieee.Format) : f.infRung + f.binade = f.signWeight := by
  have h : 0 < 2 ^ f.exponentBits := Nat.two_pow_pos _
  unfold Ieee.Format.infRung Ieee.Format.signWeight
  rw [Nat.pow_add, ← Nat.succ_mul]
  exact congrArg (· * f.binade) (by omega)

theorem read_word (f : Ieee.Format) (s : Bool) {rung : Nat} (h : rung ≤ f.infRung) : (f.read (f.word s rung)).isNaN = false := by
  have h1 := signWeight_eq f
  have h2 : 0 < f.binade := Nat.two_pow_pos _
  have e : f.word s rung % f.signWeight = rung := by
    unfold Ieee.Format.word
    split
    · rw [Nat.add_mod_left, Nat.mod_eq_of_lt (by omega)]
    · rw [Nat.mod_eq_of_lt (by omega)]
  unfold Ieee.Format.read
  simp only [e]
  split
  · rfl
  · split
    · rfl
    · split
      · rfl
      · omega

theorem read_write (f : Ieee.Format) (d : Ieee.Datum) (h : d.isNaN = false) : (f.read (f.write d)).isNaN = false := by
  cases d with
  | number s m e =>
    show (f.read (f.nearest s m e)).isNaN = false
    unfold Ieee.Format.nearest
    dsimp only
    split
    · exact read_word f s (Nat.zero_le _)
    · exact read_word f s (Nat.min_le_right ..)
  | infinity s => exact read_word f s (Nat.le_refl _)
  | nan s t => cases h

theorem order_self (f : Ieee.Format) (x : Nat) (h : (f.read x).isNaN = false) : f.order x x = some .eq := by
  unfold Ieee.Format.order
  cases e : f.read x with
  | number s m i => simp [Ieee.Datum.order, compare, compareOfLessAndEq]
  | infinity s => simp [Ieee.Datum.order, compare, compareOfLessAndEq]
  | nan s t => rw [e] at h; cases h

theorem quot_num (n k : Nat) {d : Ieee.Datum} (h : d.isNaN = false) (s : Bool) (i : Int) : ∃ r, d.quotient n (.number s (k + 1) i) = some r ∧ r.isNaN = false := by
  cases d with
  | number t m j => exact ⟨_, by simp only [Ieee.Datum.quotient]; rw [if_neg (by omega)], rfl⟩
  | infinity t => exact ⟨_, rfl, rfl⟩
  | nan t u => cases h

noncomputable def fz (n : Int) : Option Nat := fop BinOp.quo (some (FloatKind.f64.nearest n)) (some 4652218415073722368)

theorem fz_self (n : Int) : ford (fz n) (fz n) = some .eq := by
  have h0 : (FloatKind.f64.format.read (FloatKind.f64.nearest n)).isNaN = false := read_write FloatKind.f64.format (.number (n < 0) n.natAbs 0) rfl
  have e : ∃ s k i, FloatKind.f64.format.read 4652218415073722368 = .number s (k + 1) i := ⟨false, 4503599627370495, -42, by decide +kernel⟩
  obtain ⟨s, k, i, e⟩ := e
  obtain ⟨r, h1, h2⟩ := quot_num (FloatKind.f64.format.fractionBits + 2) k h0 s i
  have h3 : fz n = some (FloatKind.f64.format.write r) := by
    show FloatKind.f64.format.div _ _ = _
    unfold Ieee.Format.div
    rw [e, h1]; rfl
  rw [h3]
  exact order_self _ _ (read_write _ _ h2)

/-! ### Loops that count -/
theorem iter_count {σ : Type} {t : σ → T (Ex × σ)} (st : Nat → σ) {e : Ex} {z : σ} (he : e ≠ .normal) : ∀ (n k m : Nat), (∀ i, k ≤ i → i < k + n → (t (st i)).run = some (.normal, st (i + 1))) → (t (st (k + n))).run = some (e, z) → n < m → (iterT t m (st k)).run = some (e, z)
  | n, k, 0, _, _, hm => absurd hm (Nat.not_lt_zero _)
  | 0, k, m + 1, _, h2, _ => by
    rw [Nat.add_zero] at h2
    rw [iter_step h2]
    cases e <;> first | rfl | exact absurd rfl he
  | n + 1, k, m + 1, h1, h2, hm => by
    rw [iter_step (h1 k (Nat.le_refl _) (by omega))]
    exact iter_count st he n (k + 1) m (fun i a b => h1 i (by omega) (by omega)) (by rw [show k + 1 + n = k + (n + 1) by omega]; exact h2) (by omega)

theorem lget_nat {α : Type} (l : List α) {k : Nat} (h : k < l.length) : lget l (k : Int) = some l[k] := by
  unfold lget
  rw [if_neg (by omega), Int.toNat_natCast, List.getElem?_eq_getElem h]

theorem take_all {α : Type} (l : List α) (v : α) : List.take (l.length + 1) (List.take l.length l ++ [v]) = l ++ [v] := by
  rw [List.take_length, List.take_of_length_le (by simp)]

theorem map_take {α β : Type} (f : α → β) (l : List α) {k : Nat} (h : k < l.length) : (l.take (k + 1)).map f = (l.take k).map f ++ [f l[k]] := by
  rw [List.take_succ_eq_append_getElem h, List.map_append]; rfl

theorem W_succ {k : Nat} (h : k < 1000) : W ((k : Int) + 1) = ((k + 1 : Nat) : Int) := by
  rw [W_id (by omega) (by omega)]; omega

theorem room {n c : Nat} (h : n < 1000) (hc : c ≤ 1000) : (n + 1) * c ≤ most := by
  have : (n + 1) * c ≤ 1000 * 1000 := Nat.mul_le_mul (by omega) hc
  unfold most; omega
end Go.Proofs.Pen
