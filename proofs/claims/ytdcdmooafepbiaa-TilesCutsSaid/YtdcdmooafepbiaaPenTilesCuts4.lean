/- A part of the proof that the law TilesCuts is true of every input: models of the functions that the law reaches, and what holds of them. -/
import Derived.Test.YtdcdmooafepbiaaPenKit0
import Derived.Test.YtdcdmooafepbiaaPenKit1
import Derived.Test.YtdcdmooafepbiaaPenKit2
import Derived.Test.YtdcdmooafepbiaaPenKit3
namespace Go.Proofs.Pen
open Go Go.Proofs

abbrev R4 := Int × Int × Int × Int

/-! ### Rectangles and pixels -/
def has (r : R4) (x y : Int) : Bool := decide (r.1 ≤ x) && decide (x < r.2.2.1) && decide (r.2.1 ≤ y) && decide (y < r.2.2.2)
def fits (w h : Int) (r : R4) : Prop := 0 ≤ r.1 ∧ 0 ≤ r.2.1 ∧ r.1 < r.2.2.1 ∧ r.2.1 < r.2.2.2 ∧ r.2.2.1 ≤ w ∧ r.2.2.2 ≤ h
instance (w h : Int) (r : R4) : Decidable (fits w h r) := by unfold fits; infer_instance
def area (r : R4) : Int := (r.2.2.1 - r.1) * (r.2.2.2 - r.2.1)
def meets (r s : R4) : Prop := (if s.1 > r.1 then s.1 else r.1) < (if s.2.2.1 < r.2.2.1 then s.2.2.1 else r.2.2.1) ∧ (if s.2.1 > r.2.1 then s.2.1 else r.2.1) < (if s.2.2.2 < r.2.2.2 then s.2.2.2 else r.2.2.2)
instance (r s : R4) : Decidable (meets r s) := by unfold meets; infer_instance

theorem has_iff {r : R4} {x y : Int} : has r x y = true ↔ r.1 ≤ x ∧ x < r.2.2.1 ∧ r.2.1 ≤ y ∧ y < r.2.2.2 := by
  simp [has, and_assoc]

theorem meets_iff {r s : R4} : meets r s ↔ ∃ x y, has r x y = true ∧ has s x y = true := by
  constructor
  · intro h
    unfold meets at h
    refine ⟨if s.1 > r.1 then s.1 else r.1, if s.2.1 > r.2.1 then s.2.1 else r.2.1, ?_, ?_⟩ <;> rw [has_iff] <;> (repeat' split at h) <;> (repeat' split) <;> omega
  · rintro ⟨x, y, h1, h2⟩
    rw [has_iff] at h1 h2
    unfold meets
    (repeat' split) <;> omega

/-- How many of the first 'n' numbers. -/
theorem countP_range_between (a b : Int) : ∀ (n : Nat), 0 ≤ a → a ≤ b → b ≤ n → ((List.range n).countP fun (i : Nat) => decide (a ≤ (i : Int)) && decide ((i : Int) < b)) = (b - a).toNat
  | 0, h1, h2, h3 => by simp; omega
  | n + 1, h1, h2, h3 => by
    rw [List.range_succ, List.countP_append, List.countP_singleton]
    by_cases hb : b ≤ n
    · rw [countP_range_between a b n h1 h2 hb, if_neg (by simp; omega)]; omega
    · by_cases ha : a ≤ n
      · have e : ((List.range n).countP fun (i : Nat) => decide (a ≤ (i : Int)) && decide ((i : Int) < b)) = ((List.range n).countP fun (i : Nat) => decide (a ≤ (i : Int)) && decide ((i : Int) < (n : Int))) := by
          apply List.countP_congr
          intro x hx
          have : x < n := by simpa using hx
          simp; omega
        rw [e, countP_range_between a n n h1 ha (Int.le_refl _), if_pos (by simp; omega)]; omega
      · have e : ((List.range n).countP fun (i : Nat) => decide (a ≤ (i : Int)) && decide ((i : Int) < b)) = 0 := by
          rw [List.countP_eq_zero]
          intro x hx
          have : x < n := by simpa using hx
          simp; omega
        rw [e, if_neg (by simp; omega)]; omega

/-- Pixels by rows. -/
theorem countP_rows (w : Nat) (f : Nat → Nat → Bool) (hw : 0 < w) : ∀ (h : Nat), ((List.range (w * h)).countP fun p => f (p % w) (p / w)) = ((List.range h).map fun y => (List.range w).countP fun x => f x y).sum
  | 0 => by simp
  | h + 1 => by
    rw [Nat.mul_succ, List.range_add, List.countP_append, countP_rows w f hw h, List.range_succ, List.map_append, List.sum_append, List.countP_map]
    simp only [List.map_cons, List.map_nil, List.sum_cons, List.sum_nil, Nat.add_zero]
    congr 1
    apply List.countP_congr
    intro x hx
    have hx : x < w := by simpa using hx
    simp only [Function.comp]
    have e1 : (w * h + x) % w = x := by rw [Nat.mul_add_mod, Nat.mod_eq_of_lt hx]
    have e2 : (w * h + x) / w = h := by rw [Nat.mul_add_div hw, Nat.div_eq_of_lt hx]; omega
    rw [e1, e2]

theorem sum_ite (c : Nat) (p : Nat → Bool) : ∀ (l : List Nat), (l.map fun y => if p y = true then c else 0).sum = l.countP p * c
  | [] => by simp
  | y :: l => by
    rw [List.map_cons, List.sum_cons, sum_ite c p l, List.countP_cons]
    by_cases h : p y = true
    · simp only [h, if_true]; rw [Nat.add_mul]; omega
    · simp only [h]; simp

/-- Pixel 'p' of a picture. -/
def hasP (w : Nat) (r : R4) (p : Nat) : Bool := has r ((p % w : Nat) : Int) ((p / w : Nat) : Int)

theorem area_count {w h : Nat} {r : R4} (hf : fits w h r) : ((List.range (w * h)).countP (hasP w r) : Int) = area r := by
  unfold fits at hf
  have hw : 0 < w := by omega
  have e : (List.range (w * h)).countP (hasP w r) = ((List.range h).map fun (y : Nat) => (List.range w).countP fun (x : Nat) => has r (x : Int) (y : Int)).sum :=
    countP_rows w (fun (x y : Nat) => has r (x : Int) (y : Int)) hw h
  have e2 : ((List.range h).map fun (y : Nat) => (List.range w).countP fun (x : Nat) => has r (x : Int) (y : Int)) = (List.range h).map fun (y : Nat) => if (decide (r.2.1 ≤ (y : Int)) && decide ((y : Int) < r.2.2.2)) = true then (r.2.2.1 - r.1).toNat else 0 := by
    apply List.map_congr_left
    intro y _
    by_cases hy : (decide (r.2.1 ≤ (y : Int)) && decide ((y : Int) < r.2.2.2)) = true
    · rw [if_pos hy, ← countP_range_between r.1 r.2.2.1 w (by omega) (by omega) (by omega)]
      apply List.countP_congr
      intro x _
      simp only [Bool.and_eq_true, decide_eq_true_eq] at hy
      rw [has_iff]
      simp [hy]
    · rw [if_neg hy, List.countP_eq_zero]
      intro x _ hx
      rw [has_iff] at hx
      simp only [Bool.and_eq_true, decide_eq_true_eq] at hy
      omega
  rw [e, e2, sum_ite, countP_range_between r.2.1 r.2.2.2 h (by omega) (by omega) (by omega)]
  unfold area
  rw [Int.natCast_mul, Int.toNat_of_nonneg (by omega), Int.toNat_of_nonneg (by omega), Int.mul_comm]

/-- Counted by pixels, counted by parts. -/
theorem count_swap {α : Type} (f : α → Nat → Bool) (l : List α) : ∀ (n : Nat), ((List.range n).map fun p => l.countP fun r => f r p).sum = (l.map fun r => (List.range n).countP (f r)).sum
  | 0 => by
    simp only [List.range_zero, List.map_nil, List.sum_nil, List.countP_nil]
    induction l with
    | nil => rfl
    | cons a l ih => simp [← ih]
  | n + 1 => by
    rw [List.range_succ, List.map_append, List.sum_append, count_swap f l n]
    simp only [List.map_cons, List.map_nil, List.sum_cons, List.sum_nil, Nat.add_zero]
    induction l with
    | nil => rfl
    | cons a l ih =>
      simp only [List.map_cons, List.sum_cons, List.countP_cons, List.countP_append, List.countP_nil] at ih ⊢
      simp only [Nat.zero_add] at ih ⊢
      omega

theorem sum_ones (f : Nat → Nat) : ∀ (n : Nat), (∀ p, p < n → f p = 1) → ((List.range n).map f).sum = n
  | 0, _ => rfl
  | n + 1, h => by
    rw [List.range_succ, List.map_append, List.sum_append, sum_ones f n fun p hp => h p (by omega)]
    simp [h n (by omega)]

theorem sum_full (f : Nat → Nat) : ∀ (n : Nat), (∀ p, p < n → f p ≤ 1) → ((List.range n).map f).sum ≤ n ∧ (((List.range n).map f).sum = n → ∀ p, p < n → f p = 1)
  | 0, _ => ⟨by simp, fun _ p hp => by omega⟩
  | n + 1, h => by
    obtain ⟨h1, h2⟩ := sum_full f n fun p hp => h p (by omega)
    rw [List.range_succ, List.map_append, List.sum_append]
    simp only [List.map_cons, List.map_nil, List.sum_cons, List.sum_nil, Nat.add_zero]
    have h3 := h n (by omega)
    refine ⟨by omega, fun e p hp => ?_⟩
    rcases Nat.lt_or_ge p n with h4 | h4
    · exact h2 (by omega) p h4
    · have : p = n := by omega
      subst this; omega

def apart (l : List R4) : Prop := l.Pairwise fun r s => ¬ meets s r
def once (w h : Nat) (l : List R4) : Prop := ∀ p, p < w * h → l.countP (fun r => hasP w r p) = 1

theorem apart_le {w : Nat} {p : Nat} : ∀ {l : List R4}, apart l → l.countP (fun r => hasP w r p) ≤ 1
  | [], _ => by simp
  | r :: l, h => by
    unfold apart at h
    rw [List.pairwise_cons] at h
    rw [List.countP_cons]
    by_cases hr : hasP w r p = true
    · have : l.countP (fun r => hasP w r p) = 0 := by
        rw [List.countP_eq_zero]
        intro s hs hp
        exact h.1 s hs (meets_iff.2 ⟨_, _, hp, hr⟩)
      rw [this]; simp [hr]
    · have := apart_le (w := w) (p := p) (l := l) h.2
      simp [hr]; exact this

theorem apart_of {w h : Nat} : ∀ {l : List R4}, (∀ r ∈ l, fits w h r) → (∀ p, p < w * h → l.countP (fun r => hasP w r p) ≤ 1) → apart l
  | [], _, _ => .nil
  | r :: l, hf, hc => by
    unfold apart
    rw [List.pairwise_cons]
    refine ⟨fun s hs hm => ?_, apart_of (fun r hr => hf r (by simp [hr])) fun p hp => ?_⟩
    · obtain ⟨x, y, h1, h2⟩ := meets_iff.1 hm
      have fr := hf r (by simp)
      unfold fits at fr
      have h2' := has_iff.1 h2
      have hx : x.toNat < w := by omega
      have hy : y.toNat < h := by omega
      have hw : 0 < w := by omega
      have hp : w * y.toNat + x.toNat < w * h := by
        have : w * (y.toNat + 1) ≤ w * h := Nat.mul_le_mul_left _ hy
        rw [Nat.mul_succ] at this; omega
      have e1 : (w * y.toNat + x.toNat) % w = x.toNat := by rw [Nat.mul_add_mod, Nat.mod_eq_of_lt hx]
      have e2 : (w * y.toNat + x.toNat) / w = y.toNat := by rw [Nat.mul_add_div hw, Nat.div_eq_of_lt hx]; omega
      have hin : ∀ {q : R4}, has q x y = true → hasP w q (w * y.toNat + x.toNat) = true := fun {q} hq => by
        unfold hasP
        rw [e1, e2, Int.toNat_of_nonneg (by omega), Int.toNat_of_nonneg (by omega)]; exact hq
      have := hc _ hp
      rw [List.countP_cons, if_pos (hin h2)] at this
      have : 0 < l.countP fun r => hasP w r (w * y.toNat + x.toNat) := List.countP_pos_iff.2 ⟨s, hs, hin h1⟩
      omega
    · have := hc p hp
      rw [List.countP_cons] at this; omega

theorem sum_area {w h : Nat} : ∀ {l : List R4}, (∀ r ∈ l, fits w h r) → (((l.map fun r => (List.range (w * h)).countP (hasP w r)).sum : Nat) : Int) = (l.map area).sum
  | [], _ => rfl
  | r :: l, hf => by
    have := sum_area (l := l) fun r hr => hf r (by simp [hr])
    simp only [List.map_cons, List.sum_cons]
    rw [Int.natCast_add, this, area_count (hf r (by simp))]

/-- Each pixel once: none meet, and the sizes are the whole. -/
theorem once_iff {w h : Nat} {l : List R4} (hf : ∀ r ∈ l, fits w h r) : once w h l ↔ apart l ∧ (l.map area).sum = (w : Int) * h := by
  have hs := sum_area hf
  rw [← count_swap (fun r p => hasP w r p) l (w * h)] at hs
  constructor
  · intro ho
    refine ⟨apart_of hf fun p hp => by rw [ho p hp]; omega, ?_⟩
    rw [← hs, sum_ones _ _ ho]; simp
  · rintro ⟨h1, h2⟩
    have h3 := (sum_full (fun p => l.countP fun r => hasP w r p) (w * h) fun p _ => apart_le h1).2
    rw [h2] at hs
    exact h3 (by have : ((w * h : Nat) : Int) = w * h := by simp
                 omega)

end Go.Proofs.Pen
