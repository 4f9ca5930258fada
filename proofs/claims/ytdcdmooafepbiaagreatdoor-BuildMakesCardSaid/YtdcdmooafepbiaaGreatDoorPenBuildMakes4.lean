/- A part of the proof that the law BuildMakes is true of every input: models of the functions that the law reaches, and what holds of them. -/
import Derived.Test.YtdcdmooafepbiaaGreatDoorPenKit0
import Derived.Test.YtdcdmooafepbiaaGreatDoorPenKit1
import Derived.Test.YtdcdmooafepbiaaGreatDoorPenKit2
import Derived.Test.YtdcdmooafepbiaaGreatDoorPenKit3
namespace Go.Proofs.Pen
open Go Go.Proofs

/-! ### A loop that looks through a list -/
theorem iter_scan_from {σ α : Type} {t : σ → T (Ex × σ)} {l : List α} {good : α → Bool} {st zr : Nat → σ} {ze : σ} {er ee : Ex} (hstep : ∀ i (h : i < l.length), (t (st i)).run = some (if good l[i] then (.normal, st (i + 1)) else (er, zr i)))
    (hend : (t (st l.length)).run = some (ee, ze)) (her : er ≠ .normal) (hee : ee ≠ .normal) : ∀ (n k m : Nat), k + n = l.length → n < m →
      ((l.drop k).all good = true ∧ (iterT t m (st k)).run = some (ee, ze)) ∨ ((l.drop k).all good = false ∧ ∃ i, (iterT t m (st k)).run = some (er, zr i))
  | n, k, 0, _, hm => absurd hm (Nat.not_lt_zero _)
  | 0, k, m + 1, hk, _ => by
    have : k = l.length := by omega
    subst this
    refine .inl ⟨by simp, ?_⟩
    rw [iter_step hend]
    cases ee <;> first | rfl | exact absurd rfl hee
  | n + 1, k, m + 1, hk, hm => by
    have hlt : k < l.length := by omega
    have hs := hstep k hlt
    rw [List.drop_eq_getElem_cons hlt, List.all_cons]
    by_cases hg : good l[k] = true
    · rw [if_pos hg] at hs
      rw [hg, Bool.true_and, iter_step hs]
      exact iter_scan_from hstep hend her hee n (k + 1) m (by omega) (by omega)
    · rw [if_neg hg] at hs
      have : good l[k] = false := by simpa using hg
      rw [this]
      refine .inr ⟨rfl, k, ?_⟩
      rw [iter_step hs]
      cases er <;> first | rfl | exact absurd rfl her

theorem iter_scan {σ α : Type} {t : σ → T (Ex × σ)} (l : List α) (good : α → Bool) (st zr : Nat → σ) (ze : σ) (er ee : Ex) (hstep : ∀ i (h : i < l.length), (t (st i)).run = some (if good l[i] then (.normal, st (i + 1)) else (er, zr i)))
    (hend : (t (st l.length)).run = some (ee, ze)) (her : er ≠ .normal) (hee : ee ≠ .normal) {m : Nat} (hm : l.length < m) :
      (l.all good = true ∧ (iterT t m (st 0)).run = some (ee, ze)) ∨ (l.all good = false ∧ ∃ i, (iterT t m (st 0)).run = some (er, zr i)) :=
  iter_scan_from hstep hend her hee l.length 0 m (by omega) hm

/-- A loop that goes through a list. -/
theorem iter_count {σ : Type} {t : σ → T (Ex × σ)} (st : Nat → σ) {e : Ex} {z : σ} (he : e ≠ .normal) : ∀ (n k m : Nat), (∀ i, k ≤ i → i < k + n → (t (st i)).run = some (.normal, st (i + 1))) → (t (st (k + n))).run = some (e, z) → n < m → (iterT t m (st k)).run = some (e, z)
  | n, k, 0, _, _, hm => absurd hm (Nat.not_lt_zero _)
  | 0, k, m + 1, _, h2, _ => by
    rw [Nat.add_zero] at h2
    rw [iter_step h2]
    cases e <;> first | rfl | exact absurd rfl he
  | n + 1, k, m + 1, h1, h2, hm => by
    rw [iter_step (h1 k (Nat.le_refl _) (by omega))]
    exact iter_count st he n (k + 1) m (fun i a b => h1 i (by omega) (by omega)) (by rw [show k + 1 + n = k + (n + 1) by omega]; exact h2) (by omega)

theorem lget_nat {α : Type} (l : List α) {k : Nat} (h : k < l.length) : lget l (k : Int) = some l[k] := by
  unfold lget
  rw [if_neg (by omega), Int.toNat_natCast, List.getElem?_eq_getElem h]

theorem take_all {α : Type} (l : List α) (v : α) : List.take (l.length + 1) (List.take l.length l ++ [v]) = l ++ [v] := by
  rw [List.take_length, List.take_of_length_le (by simp)]

theorem W_succ {k : Nat} (h : k < 100000) : W ((k : Int) + 1) = ((k + 1 : Nat) : Int) := by
  rw [W_id (by omega) (by omega)]; omega

theorem room {n c : Nat} (h : n < 100000) (hc : c ≤ 1000) : (n + 1) * c ≤ most := by
  have : (n + 1) * c ≤ 100000 * 1000 := Nat.mul_le_mul (by omega) hc
  unfold most; omega
end Go.Proofs.Pen
