/- A part of the proof that the law SplitMeets is true of every input: models of the functions that the law reaches, and what holds of them. -/
import Derived.Test.YtfkgoljaeggbmaaChecked
import Derived.KernelRfl
import Derived.Test.YtfkgoljaeggbmaaPenKit0
import Derived.Test.YtfkgoljaeggbmaaPenKit1
import Derived.Test.YtfkgoljaeggbmaaPenKit2
namespace Go.Proofs.Pen
open Go Go.Proofs

abbrev R4 := Int × Int × Int × Int

/-! ### Rectangles and pixels -/
def has (r : R4) (x y : Int) : Bool := decide (r.1 ≤ x) && decide (x < r.2.2.1) && decide (r.2.1 ≤ y) && decide (y < r.2.2.2)
def fits (w h : Int) (r : R4) : Prop := 0 ≤ r.1 ∧ 0 ≤ r.2.1 ∧ r.1 < r.2.2.1 ∧ r.2.1 < r.2.2.2 ∧ r.2.2.1 ≤ w ∧ r.2.2.2 ≤ h
instance (w h : Int) (r : R4) : Decidable (fits w h r) := by unfold fits; infer_instance
def area (r : R4) : Int := (r.2.2.1 - r.1) * (r.2.2.2 - r.2.1)
def meets (r s : R4) : Prop := (if s.1 > r.1 then s.1 else r.1) < (if s.2.2.1 < r.2.2.1 then s.2.2.1 else r.2.2.1) ∧ (if s.2.1 > r.2.1 then s.2.1 else r.2.1) < (if s.2.2.2 < r.2.2.2 then s.2.2.2 else r.2.2.2)
instance (r s : R4) : Decidable (meets r s) := by unfold meets; infer_instance

theorem has_iff {r : R4} {x y : Int} : has r x y = true ↔ r.1 ≤ x ∧ x < r.2.2.1 ∧ r.2.1 ≤ y ∧ y < r.2.2.2 := by
  simp [has, and_assoc]

theorem meets_iff {r s : R4} : meets r s ↔ ∃ x y, has r x y = true ∧ has s x y = true := by
  constructor
  · intro h
    unfold meets at h
    refine ⟨if s.1 > r.1 then s.1 else r.1, if s.2.1 > r.2.1 then s.2.1 else r.2.1, ?_, ?_⟩ <;> rw [has_iff] <;> (repeat' split at h) <;> (repeat' split) <;> omega
  · rintro ⟨x, y, h1, h2⟩
    rw [has_iff] at h1 h2
    unfold meets
    (repeat' split) <;> omega

/-- How many of the first 'n' numbers. -/
theorem countP_range_between (a b : Int) : ∀ (n : Nat), 0 ≤ a → a ≤ b → b ≤ n → ((List.range n).countP fun (i : Nat) => decide (a ≤ (i : Int)) && decide ((i : Int) < b)) = (b - a).toNat
  | 0, h1, h2, h3 => by simp; omega
  | n + 1, h1, h2, h3 => by
    rw [List.range_succ, List.countP_append, List.countP_singleton]
    by_cases hb : b ≤ n
    · rw [countP_range_between a b n h1 h2 hb, if_neg (by simp; omega)]; omega
    · by_cases ha : a ≤ n
      · have e : ((List.range n).countP fun (i : Nat) => decide (a ≤ (i : Int)) && decide ((i : Int) < b)) = ((List.range n).countP fun (i : Nat) => decide (a ≤ (i : Int)) && decide ((i : Int) < (n : Int))) := by
          apply List.countP_congr
          intro x hx
          have : x < n := by simpa using hx
          simp; omega
        rw [e, countP_range_between a n n h1 ha (Int.le_refl _), if_pos (by simp; omega)]; omega
      · have e : ((List.range n).countP fun (i : Nat) => decide (a ≤ (i : Int)) && decide ((i : Int) < b)) = 0 := by
          rw [List.countP_eq_zero]
          intro x hx
          have : x < n := by simpa using hx
          simp; omega
        rw [e, if_neg (by simp; omega)]; omega

/-- Pixels by rows. -/
theorem countP_rows (w : Nat) (f : Nat → Nat → Bool) (hw : 0 < w) : ∀ (h : Nat), ((List.range (w * h)).countP fun p => f (p % w) (p / w)) = ((List.range h).map fun y => (List.range w).countP fun x => f x y).sum
  | 0 => by simp
  | h + 1 => by
    rw [Nat.mul_succ, List.range_add, List.countP_append, countP_rows w f hw h, List.range_succ, List.map_append, List.sum_append, List.countP_map]
    simp only [List.map_cons, List.map_nil, List.sum_cons, List.sum_nil, Nat.add_zero]
    congr 1
    apply List.countP_congr
    intro x hx
    have hx : x < w := by simpa using hx
    simp only [Function.comp]
    have e1 : (w * h + x) % w = x := by rw [Nat.mul_add_mod, Nat.mod_eq_of_lt hx]
    have e2 : (w * h + x) / w = h := by rw [Nat.mul_add_div hw, Nat.div_eq_of_lt hx]; omega
    rw [e1, e2]

theorem sum_ite (c : Nat) (p : Nat → Bool) : ∀ (l : List Nat), (l.map fun y => if p y = true then c else 0).sum = l.countP p * c
  | [] => by simp
  | y :: l => by
    rw [List.map_cons, List.sum_cons, sum_ite c p l, List.countP_cons]
    by_cases h : p y = true
    · simp only [h, if_true]; rw [Nat.add_mul]; omega
    · simp only [h]; simp

/-- Pixel 'p' of a picture. -/
def hasP (w : Nat) (r : R4) (p : Nat) : Bool := has r ((p % w : Nat) : Int) ((p / w : Nat) : Int)

theorem area_count {w h : Nat} {r : R4} (hf : fits w h r) : ((List.range (w * h)).countP (hasP w r) : Int) = area r := by
  unfold fits at hf
  have hw : 0 < w := by omega
  have e : (List.range (w * h)).countP (hasP w r) = ((List.range h).map fun (y : Nat) => (List.range w).countP fun (x : Nat) => has r (x : Int) (y : Int)).sum :=
    countP_rows w (fun (x y : Nat) => has r (x : Int) (y : Int)) hw h
  have e2 : ((List.range h).map fun (y : Nat) => (List.range w).countP fun (x : Nat) => has r (x : Int) (y : Int)) = (List.range h).map fun (y : Nat) => if (decide (r.2.1 ≤ (y : Int)) && decide ((y : Int) < r.2.2.2)) = true then (r.2.2.1 - r.1).toNat else 0 := by
    apply List.map_congr_left
    intro y _
    by_cases hy : (decide (r.2.1 ≤ (y : Int)) && decide ((y : Int) < r.2.2.2)) = true
    · rw [if_pos hy, ← countP_range_between r.1 r.2.2.1 w (by omega) (by omega) (by omega)]
      apply List.countP_congr
      intro x _
      simp only [Bool.and_eq_true, decide_eq_true_eq] at hy
      rw [has_iff]
      simp [hy]
    · rw [if_neg hy, List.countP_eq_zero]
      intro x _ hx
      rw [has_iff] at hx
      simp only [Bool.and_eq_true, decide_eq_true_eq] at hy
      omega
  rw [e, e2, sum_ite, countP_range_between r.2.1 r.2.2.2 h (by omega) (by omega) (by omega)]
  unfold area
  rw [Int.natCast_mul, Int.toNat_of_nonneg (by omega), Int.toNat_of_nonneg (by omega), Int.mul_comm]

/-- Counted by pixels, counted by parts. -/
theorem count_swap {α : Type} (f : α → Nat → Bool) (l : List α) : ∀ (n : Nat), ((List.range n).map fun p => l.countP fun r => f r p).sum = (l.map fun r => (List.range n).countP (f r)).sum
  | 0 => by
    simp only [List.range_zero, List.map_nil, List.sum_nil, List.countP_nil]
    induction l with
    | nil => rfl
    | cons a l ih => simp [← ih]
  | n + 1 => by
    rw [List.range_succ, List.map_append, List.sum_append, count_swap f l n]
    simp only [List.map_cons, List.map_nil, List.sum_cons, List.sum_nil, Nat.add_zero]
    induction l with
    | nil => rfl
    | cons a l ih =>
      simp only [List.map_cons, List.sum_cons, List.countP_cons, List.countP_append, List.countP_nil] at ih ⊢
      simp only [Nat.zero_add] at ih ⊢
      omega

theorem sum_ones (f : Nat → Nat) : ∀ (n : Nat), (∀ p, p < n → f p = 1) → ((List.range n).map f).sum = n
  | 0, _ => rfl
  | n + 1, h => by
    rw [List.range_succ, List.map_append, List.sum_append, sum_ones f n fun p hp => h p (by omega)]
    simp [h n (by omega)]

theorem sum_full (f : Nat → Nat) : ∀ (n : Nat), (∀ p, p < n → f p ≤ 1) → ((List.range n).map f).sum ≤ n ∧ (((List.range n).map f).sum = n → ∀ p, p < n → f p = 1)
  | 0, _ => ⟨by simp, fun _ p hp => by omega⟩
  | n + 1, h => by
    obtain ⟨h1, h2⟩ := sum_full f n fun p hp => h p (by omega)
    rw [List.range_succ, List.map_append, List.sum_append]
    simp only [List.map_cons, List.map_nil, List.sum_cons, List.sum_nil, Nat.add_zero]
    have h3 := h n (by omega)
    refine ⟨by omega, fun e p hp => ?_⟩
    rcases Nat.lt_or_ge p n with h4 | h4
    · exact h2 (by omega) p h4
    · have : p = n := by omega
      subst this; omega

def apart (l : List R4) : Prop := l.Pairwise fun r s => ¬ meets s r
def once (w h : Nat) (l : List R4) : Prop := ∀ p, p < w * h → l.countP (fun r => hasP w r p) = 1

theorem apart_le {w : Nat} {p : Nat} : ∀ {l : List R4}, apart l → l.countP (fun r => hasP w r p) ≤ 1
  | [], _ => by simp
  | r :: l, h => by
    unfold apart at h
    rw [List.pairwise_cons] at h
    rw [List.countP_cons]
    by_cases hr : hasP w r p = true
    · have : l.countP (fun r => hasP w r p) = 0 := by
        rw [List.countP_eq_zero]
        intro s hs hp
        exact h.1 s hs (meets_iff.2 ⟨_, _, hp, hr⟩)
      rw [this]; simp [hr]
    · have := apart_le (w := w) (p := p) (l := l) h.2
      simp [hr]; exact this

theorem apart_of {w h : Nat} : ∀ {l : List R4}, (∀ r ∈ l, fits w h r) → (∀ p, p < w * h → l.countP (fun r => hasP w r p) ≤ 1) → apart l
  | [], _, _ => .nil
  | r :: l, hf, hc => by
    unfold apart
    rw [List.pairwise_cons]
    refine ⟨fun s hs hm => ?_, apart_of (fun r hr => hf r (by simp [hr])) fun p hp => ?_⟩
    · obtain ⟨x, y, h1, h2⟩ := meets_iff.1 hm
      have fr := hf r (by simp)
      unfold fits at fr
      have h2' := has_iff.1 h2
      have hx : x.toNat < w := by omega
      have hy : y.toNat < h := by omega
      have hw : 0 < w := by omega
      have hp : w * y.toNat + x.toNat < w * h := by
        have : w * (y.toNat + 1) ≤ w * h := Nat.mul_le_mul_left _ hy
        rw [Nat.mul_succ] at this; omega
      have e1 : (w * y.toNat + x.toNat) % w = x.toNat := by rw [Nat.mul_add_mod, Nat.mod_eq_of_lt hx]
      have e2 : (w * y.toNat + x.toNat) / w = y.toNat := by rw [Nat.mul_add_div hw, Nat.div_eq_of_lt hx]; omega
      have hin : ∀ {q : R4}, has q x y = true → hasP w q (w * y.toNat + x.toNat) = true := fun {q} hq => by
        unfold hasP
        rw [e1, e2, Int.toNat_of_nonneg (by omega), Int.toNat_of_nonneg (by omega)]; exact hq
      have := hc _ hp
      rw [List.countP_cons, if_pos (hin h2)] at this
      have : 0 < l.countP fun r => hasP w r (w * y.toNat + x.toNat) := List.countP_pos_iff.2 ⟨s, hs, hin h1⟩
      omega
    · have := hc p hp
      rw [List.countP_cons] at this; omega

theorem sum_area {w h : Nat} : ∀ {l : List R4}, (∀ r ∈ l, fits w h r) → (((l.map fun r => (List.range (w * h)).countP (hasP w r)).sum : Nat) : Int) = (l.map area).sum
  | [], _ => rfl
  | r :: l, hf => by
    have := sum_area (l := l) fun r hr => hf r (by simp [hr])
    simp only [List.map_cons, List.sum_cons]
    rw [Int.natCast_add, this, area_count (hf r (by simp))]

/-- Each pixel once: none meet, and the sizes are the whole. -/
theorem once_iff {w h : Nat} {l : List R4} (hf : ∀ r ∈ l, fits w h r) : once w h l ↔ apart l ∧ (l.map area).sum = (w : Int) * h := by
  have hs := sum_area hf
  rw [← count_swap (fun r p => hasP w r p) l (w * h)] at hs
  constructor
  · intro ho
    refine ⟨apart_of hf fun p hp => by rw [ho p hp]; omega, ?_⟩
    rw [← hs, sum_ones _ _ ho]; simp
  · rintro ⟨h1, h2⟩
    have h3 := (sum_full (fun p => l.countP fun r => hasP w r p) (w * h) fun p _ => apart_le h1).2
    rw [h2] at hs
    exact h3 (by have : ((w * h : Nat) : Int) = w * h := by simp
                 omega)

end Go.Proofs.Pen

namespace Go.Proofs.Pen
open Go Go.Proofs
abbrev TI : Ty := (.int .i64)
abbrev TPoint : Ty := (.st (.pair (.int .i64) (.pair (.int .i64) (.int .i64))))
abbrev TRect : Ty := (.st (.pair (.int .i64) (.pair (.int .i64) (.pair (.int .i64) (.int .i64)))))
abbrev TMove : Ty := (.st (.pair (.st (.pair (.int .i64) (.pair (.int .i64) (.int .i64)))) (.pair (.st (.pair (.int .i64) (.pair (.int .i64) (.int .i64)))) (.pair (.st (.pair (.int .i64) (.pair (.int .i64) (.int .i64)))) (.st (.pair (.int .i64) (.pair (.int .i64) (.int .i64))))))))
theorem mixed : Try.prog.follows .mixedOrders = true := by kernel_rfl
end Go.Proofs.Pen

namespace Go.Proofs.Pen
open Go Go.Proofs
noncomputable def split_may.t (x : Int × Int) : T (Bool) := T.ret (decide ((if x.2 < x.1 then x.2 else x.1) ≥ 1) && decide ((if x.2 > x.1 then x.2 else x.1) ≤ 8192) && decide (W (x.1 * x.2) ≤ 65536))
noncomputable def split_may.q : List AV → T AV := entry [TI, TI] (outR [.bool]) split_may.t
theorem split_may.ok : FnOK Try.prog 68 split_may.q :=
  entry_in (ps := [TI, TI]) (rs := [.bool]) (F := ({ quiet := noQ, deep := noDeep } : Fns)) (D := D0) (S := tabS []) (t := split_may.t) mixed (quiet_none _) (deep_none _) Try.func68 (by kernel_rfl) (sok_fn trivial) (by kernel_rfl) (fun x => by kernel_rfl)
end Go.Proofs.Pen

namespace Go.Proofs.Pen
open Go Go.Proofs
def split_Tiles.L3 : List (Nat × Lay) := [(0, .val TI), (1, .val TI), (2, .val TI), (8, .row TRect), (9, .val TI), (10, .val TI)]
noncomputable def split_Tiles.t3 (x : Int × Int × Int × List (Int × Int × Int × Int) × Int × Int × Unit) : T (Ex × Int × Int × Int × List (Int × Int × Int × Int) × Int × Int × Unit) := T.ite (decide (x.2.2.2.2.2.1 < x.1)) (T.ite (decide ((x.2.2.2.1.length + 1) * 32 ≤ most)) (T.ret (Ex.normal, x.1, x.2.1, x.2.2.1, List.take (x.2.2.2.1.length + 1) (List.take x.2.2.2.1.length x.2.2.2.1 ++ [(x.2.2.2.2.2.1, x.2.2.2.2.1, if x.1 < W (x.2.2.2.2.2.1 + x.2.2.1) then x.1 else W (x.2.2.2.2.2.1 + x.2.2.1), if x.2.1 < W (x.2.2.2.2.1 + x.2.2.1) then x.2.1 else W (x.2.2.2.2.1 + x.2.2.1))]), x.2.2.2.2.1, W (x.2.2.2.2.2.1 + x.2.2.1), ())) T.fail) (T.ret (Ex.exit 3, x.1, x.2.1, x.2.2.1, List.take x.2.2.2.1.length x.2.2.2.1, x.2.2.2.2.1, x.2.2.2.2.2.1, ()))
noncomputable def split_Tiles.l3 (x : Int × Int × Int × List (Int × Int × Int × Int) × Int × Int × Unit) : Option (Ex × Int × Int × Int × List (Int × Int × Int × Int) × Int × Int × Unit) := (iterT split_Tiles.t3 rounds x).run
theorem split_Tiles.k3 : bodies 3 (lp Try.f32 [1]) = [.loop (loopIn 3 (lp Try.f32 [1]))] ∧ WP Try.prog 0 (.block 3 (.loop (loopIn 3 (lp Try.f32 [1])))) (loopS split_Tiles.L3 67 3 [.exit 3] split_Tiles.l3) :=
  loop_tree (L := split_Tiles.L3) (F := ({ quiet := (ext noQ 68 split_may.q), deep := noDeep } : Fns)) (D := D0) (tab := []) (t := split_Tiles.t3) mixed (quiet_ext (quiet_none _) split_may.ok) (deep_none _) (fun _ => rfl) (by kernel_rfl) (by kernel_rfl) trivial (fun x => by kernel_rfl)
def split_Tiles.L1 : List (Nat × Lay) := [(0, .val TI), (1, .val TI), (2, .val TI), (8, .row TRect), (9, .val TI)]
noncomputable def split_Tiles.t1 (x : Int × Int × Int × List (Int × Int × Int × Int) × Int × Unit) : T (Ex × Int × Int × Int × List (Int × Int × Int × Int) × Int × Unit) := T.ite (decide (x.2.2.2.2.1 < x.2.1)) (T.opt (split_Tiles.l3 (x.1, x.2.1, x.2.2.1, List.take x.2.2.2.1.length x.2.2.2.1, x.2.2.2.2.1, 0, ())) fun y => T.ite (exEq y.1 (Ex.exit 3)) (T.ret (Ex.normal, y.2.1, y.2.2.1, y.2.2.2.1, List.take y.2.2.2.2.1.length y.2.2.2.2.1, W (y.2.2.2.2.2.1 + y.2.2.2.1), ())) T.fail) (T.ret (Ex.exit 1, x.1, x.2.1, x.2.2.1, List.take x.2.2.2.1.length x.2.2.2.1, x.2.2.2.2.1, ()))
noncomputable def split_Tiles.l1 (x : Int × Int × Int × List (Int × Int × Int × Int) × Int × Unit) : Option (Ex × Int × Int × Int × List (Int × Int × Int × Int) × Int × Unit) := (iterT split_Tiles.t1 rounds x).run
theorem split_Tiles.k1 : bodies 1 (lp Try.f32 []) = [.loop (loopIn 1 (lp Try.f32 []))] ∧ WP Try.prog 0 (.block 1 (.loop (loopIn 1 (lp Try.f32 [])))) (loopS split_Tiles.L1 67 1 [.exit 1] split_Tiles.l1) :=
  loop_tree (L := split_Tiles.L1) (F := ({ quiet := (ext noQ 68 split_may.q), deep := noDeep } : Fns)) (D := D0) (tab := [(3, loopS split_Tiles.L3 67 3 [.exit 3] split_Tiles.l3)]) (t := split_Tiles.t1) mixed (quiet_ext (quiet_none _) split_may.ok) (deep_none _) (fun _ => rfl) (by kernel_rfl) (by kernel_rfl) ⟨split_Tiles.k3, trivial⟩ (fun x => by kernel_rfl)
noncomputable def split_Tiles.t (x : Int × Int × Int) : T ((List (Int × Int × Int × Int)) × Int) := T.ite (!(decide ((if x.2.1 < x.1 then x.2.1 else x.1) ≥ 1) && decide ((if x.2.1 > x.1 then x.2.1 else x.1) ≤ 8192) && decide (W (x.1 * x.2.1) ≤ 65536))) (T.ret ([], 12)) (T.ite (decide (x.2.2 < 1) || decide (x.2.2 > 8192)) (T.ret ([], 3)) (T.ite (x.2.2 == 0) T.fail (T.ite (x.2.2 == 0) T.fail (T.ite (decide (W (W ((W (W (x.1 + x.2.2) - 1)).tdiv x.2.2) * W ((W (W (x.2.1 + x.2.2) - 1)).tdiv x.2.2)) > 4096)) (T.ret ([], 4)) (T.opt (split_Tiles.l1 (x.1, x.2.1, x.2.2, [], 0, ())) fun y => T.ite (exEq y.1 (Ex.exit 1)) (T.ret (List.take y.2.2.2.2.1.length y.2.2.2.2.1, 0)) T.fail)))))
noncomputable def split_Tiles (x : Int × Int × Int) : Option ((List (Int × Int × Int × Int)) × Int) := (split_Tiles.t x).run
noncomputable def split_Tiles.q : List AV → T AV := entry [TI, TI, TI] (outR [(.sl TRect), TI]) fun x => .opt (split_Tiles x) .ret
theorem split_Tiles.ok : FnOK Try.prog 32 split_Tiles.q :=
  entry_call (ps := [TI, TI, TI]) (rs := [(.sl TRect), TI]) (F := ({ quiet := (ext noQ 68 split_may.q), deep := noDeep } : Fns)) (D := D0) (S := tabS [(1, loopS split_Tiles.L1 67 1 [.exit 1] split_Tiles.l1)]) (t := split_Tiles.t) mixed (quiet_ext (quiet_none _) split_may.ok) (deep_none _) Try.func32 (by kernel_rfl) (sok_fn ⟨split_Tiles.k1, trivial⟩) (by kernel_rfl) (fun x => by kernel_rfl)
end Go.Proofs.Pen

namespace Go.Proofs.Pen
open Go Go.Proofs
noncomputable def ref37_May.t (x : Int × Int) : T (Bool) := T.ret (decide (x.1 ≥ 1) && decide (x.2 ≥ 1) && decide (x.1 ≤ 8192) && decide (x.2 ≤ 8192) && decide (W (x.1 * x.2) ≤ 65536))
noncomputable def ref37_May.q : List AV → T AV := entry [TI, TI] (outR [.bool]) ref37_May.t
theorem ref37_May.ok : FnOK Try.prog 33 ref37_May.q :=
  entry_in (ps := [TI, TI]) (rs := [.bool]) (F := ({ quiet := noQ, deep := noDeep } : Fns)) (D := D0) (S := tabS []) (t := ref37_May.t) mixed (quiet_none _) (deep_none _) Try.func33 (by kernel_rfl) (sok_fn trivial) (by kernel_rfl) (fun x => by kernel_rfl)
end Go.Proofs.Pen

namespace Go.Proofs.Pen
open Go Go.Proofs
noncomputable def split_Bands_1.t (x : Int × Int × Int) : T (Int) := T.ite (x.2.2 == 0) T.fail (T.ret (W ((W (x.1 * x.2.1)).tdiv x.2.2)))
noncomputable def split_Bands_1 (x : Int × Int × Int) : Option (Int) := (split_Bands_1.t x).run
noncomputable def split_Bands_1.q : List AV → T AV := entry [TI, (.ptr TI), (.ptr TI)] (outR [TI]) fun x => .opt (split_Bands_1 x) .ret
theorem split_Bands_1.ok : FnOK Try.prog 70 split_Bands_1.q :=
  entry_call (ps := [TI, (.ptr TI), (.ptr TI)]) (rs := [TI]) (F := ({ quiet := noQ, deep := noDeep } : Fns)) (D := D0) (S := tabS []) (t := split_Bands_1.t) mixed (quiet_none _) (deep_none _) Try.func70 (by kernel_rfl) (sok_fn trivial) (by kernel_rfl) (fun x => by kernel_rfl)
end Go.Proofs.Pen

namespace Go.Proofs.Pen
open Go Go.Proofs
def split_Bands.L1 : List (Nat × Lay) := [(0, .val TI), (4, .box TI), (5, .box TI), (8, .clo 70 [0, 1]), (9, .row TRect), (25, .val TI), (26, .val TI)]
noncomputable def split_Bands.t1 (x : Int × Int × Int × List (Int × Int × Int × Int) × Int × Int × Unit) : T (Ex × Int × Int × Int × List (Int × Int × Int × Int) × Int × Int × Unit) := T.ite (decide (x.2.2.2.2.2.1 < x.2.2.2.2.1)) (T.opt (split_Bands_1 (x.2.2.2.2.2.1, x.2.1, x.2.2.1)) fun y => T.opt (split_Bands_1 (W (x.2.2.2.2.2.1 + 1), x.2.1, x.2.2.1)) fun y_1 => T.ite (decide ((x.2.2.2.1.length + 1) * 32 ≤ most)) (T.ret (Ex.normal, x.1, x.2.1, x.2.2.1, List.take (x.2.2.2.1.length + 1) (List.take x.2.2.2.1.length x.2.2.2.1 ++ [(0, y, x.1, y_1)]), x.2.2.2.2.1, W (x.2.2.2.2.2.1 + 1), ())) T.fail) (T.ret (Ex.exit 1, x.1, x.2.1, x.2.2.1, List.take x.2.2.2.1.length x.2.2.2.1, x.2.2.2.2.1, x.2.2.2.2.2.1, ()))
noncomputable def split_Bands.l1 (x : Int × Int × Int × List (Int × Int × Int × Int) × Int × Int × Unit) : Option (Ex × Int × Int × Int × List (Int × Int × Int × Int) × Int × Int × Unit) := (iterT split_Bands.t1 rounds x).run
theorem split_Bands.k1 : bodies 1 (lp Try.f38 []) = [.loop (loopIn 1 (lp Try.f38 []))] ∧ WP Try.prog 0 (.block 1 (.loop (loopIn 1 (lp Try.f38 [])))) (loopS split_Bands.L1 43 1 [.exit 1] split_Bands.l1) :=
  loop_tree (L := split_Bands.L1) (F := ({ quiet := (ext (ext noQ 68 split_may.q) 70 split_Bands_1.q), deep := noDeep } : Fns)) (D := D0) (tab := []) (t := split_Bands.t1) mixed (quiet_ext (quiet_ext (quiet_none _) split_may.ok) split_Bands_1.ok) (deep_none _) (fun _ => rfl) (by kernel_rfl) (by kernel_rfl) trivial (fun x => by kernel_rfl)
noncomputable def split_Bands.t (x : Int × Int × Int) : T ((List (Int × Int × Int × Int)) × Int) := T.ite (!(decide ((if x.2.1 < x.1 then x.2.1 else x.1) ≥ 1) && decide ((if x.2.1 > x.1 then x.2.1 else x.1) ≤ 8192) && decide (W (x.1 * x.2.1) ≤ 65536))) (T.ret ([], 12)) (T.ite (decide (x.2.2 < 1) || decide (x.2.2 > x.2.1)) (T.ret ([], 3)) (T.opt (split_Bands.l1 (x.1, x.2.1, x.2.2, [], x.2.2, 0, ())) fun y => T.ite (exEq y.1 (Ex.exit 1)) (T.ret (List.take y.2.2.2.2.1.length y.2.2.2.2.1, 0)) T.fail))
noncomputable def split_Bands (x : Int × Int × Int) : Option ((List (Int × Int × Int × Int)) × Int) := (split_Bands.t x).run
noncomputable def split_Bands.q : List AV → T AV := entry [TI, TI, TI] (outR [(.sl TRect), TI]) fun x => .opt (split_Bands x) .ret
theorem split_Bands.ok : FnOK Try.prog 38 split_Bands.q :=
  entry_call (ps := [TI, TI, TI]) (rs := [(.sl TRect), TI]) (F := ({ quiet := (ext (ext noQ 68 split_may.q) 70 split_Bands_1.q), deep := noDeep } : Fns)) (D := D0) (S := tabS [(1, loopS split_Bands.L1 43 1 [.exit 1] split_Bands.l1)]) (t := split_Bands.t) mixed (quiet_ext (quiet_ext (quiet_none _) split_may.ok) split_Bands_1.ok) (deep_none _) Try.func38 (by kernel_rfl) (sok_fn ⟨split_Bands.k1, trivial⟩) (by kernel_rfl) (fun x => by kernel_rfl)
end Go.Proofs.Pen

namespace Go.Proofs.Pen
open Go Go.Proofs
noncomputable def split_Size.t (x : (Int × Int × Int × Int)) : T (Int) := T.ite (decide (x.2.2.1 ≤ x.1) || decide (x.2.2.2 ≤ x.2.1)) (T.ret 0) (T.ret (W (W (x.2.2.1 - x.1) * W (x.2.2.2 - x.2.1))))
noncomputable def split_Size (x : (Int × Int × Int × Int)) : Option (Int) := (split_Size.t x).run
noncomputable def split_Size.q : List AV → T AV := entry [TRect] (outR [TI]) fun x => .opt (split_Size x) .ret
theorem split_Size.ok : FnOK Try.prog 43 split_Size.q :=
  entry_call (ps := [TRect]) (rs := [TI]) (F := ({ quiet := noQ, deep := noDeep } : Fns)) (D := D0) (S := tabS []) (t := split_Size.t) mixed (quiet_none _) (deep_none _) Try.func43 (by kernel_rfl) (sok_fn trivial) (by kernel_rfl) (fun x => by kernel_rfl)
end Go.Proofs.Pen

namespace Go.Proofs.Pen
open Go Go.Proofs
noncomputable def split_Meet.t (x : (Int × Int × Int × Int) × (Int × Int × Int × Int)) : T ((Int × Int × Int × Int) × Bool) := T.ite (decide ((if x.2.2.2.1 < x.1.2.2.1 then x.2.2.2.1 else x.1.2.2.1) ≤ if x.2.1 > x.1.1 then x.2.1 else x.1.1) || decide ((if x.2.2.2.2 < x.1.2.2.2 then x.2.2.2.2 else x.1.2.2.2) ≤ if x.2.2.1 > x.1.2.1 then x.2.2.1 else x.1.2.1)) (T.ret ((0, 0, 0, 0), false)) (T.ret ((if x.2.1 > x.1.1 then x.2.1 else x.1.1, if x.2.2.1 > x.1.2.1 then x.2.2.1 else x.1.2.1, if x.2.2.2.1 < x.1.2.2.1 then x.2.2.2.1 else x.1.2.2.1, if x.2.2.2.2 < x.1.2.2.2 then x.2.2.2.2 else x.1.2.2.2), true))
noncomputable def split_Meet (x : (Int × Int × Int × Int) × (Int × Int × Int × Int)) : Option ((Int × Int × Int × Int) × Bool) := (split_Meet.t x).run
noncomputable def split_Meet.q : List AV → T AV := entry [TRect, TRect] (outR [TRect, .bool]) fun x => .opt (split_Meet x) .ret
theorem split_Meet.ok : FnOK Try.prog 42 split_Meet.q :=
  entry_call (ps := [TRect, TRect]) (rs := [TRect, .bool]) (F := ({ quiet := noQ, deep := noDeep } : Fns)) (D := D0) (S := tabS []) (t := split_Meet.t) mixed (quiet_none _) (deep_none _) Try.func42 (by kernel_rfl) (sok_fn trivial) (by kernel_rfl) (fun x => by kernel_rfl)
end Go.Proofs.Pen

namespace Go.Proofs.Pen
open Go Go.Proofs
def split_Whole.L2 : List (Nat × Lay) := [(2, .val (.sl TRect)), (6, .val .bool), (7, .box TRect), (8, .val TI), (10, .box TRect), (29, .val (.sl TRect)), (30, .val TI), (31, .val TI), (51, .val (.sl TRect)), (52, .val TI), (53, .val TI)]
noncomputable def split_Whole.t2 (x : (List (Int × Int × Int × Int)) × Bool × (Int × Int × Int × Int) × Int × (Int × Int × Int × Int) × (List (Int × Int × Int × Int)) × Int × Int × (List (Int × Int × Int × Int)) × Int × Int × Unit) : T (Ex × (List (Int × Int × Int × Int)) × Bool × (Int × Int × Int × Int) × Int × (Int × Int × Int × Int) × (List (Int × Int × Int × Int)) × Int × Int × (List (Int × Int × Int × Int)) × Int × Int × Unit) := T.ite (decide (x.2.2.2.2.2.2.2.2.2.2.1 < x.2.2.2.2.2.2.2.2.2.1)) (T.opt (lget x.2.2.2.2.2.2.2.2.1 x.2.2.2.2.2.2.2.2.2.2.1) fun y => T.opt (split_Meet (x.2.2.2.2.1, y)) fun y => T.ite y.2 (T.ret (Ex.ret, x.1, false, x.2.2.1, x.2.2.2.1, x.2.2.2.2.1, x.2.2.2.2.2.1, x.2.2.2.2.2.2.1, x.2.2.2.2.2.2.2.1, x.2.2.2.2.2.2.2.2.1, x.2.2.2.2.2.2.2.2.2.1, x.2.2.2.2.2.2.2.2.2.2.1, ())) (T.ret (Ex.normal, x.1, x.2.1, x.2.2.1, x.2.2.2.1, x.2.2.2.2.1, x.2.2.2.2.2.1, x.2.2.2.2.2.2.1, x.2.2.2.2.2.2.2.1, x.2.2.2.2.2.2.2.2.1, x.2.2.2.2.2.2.2.2.2.1, W (x.2.2.2.2.2.2.2.2.2.2.1 + 1), ()))) (T.ret (Ex.exit 2, x.1, x.2.1, x.2.2.1, x.2.2.2.1, x.2.2.2.2.1, x.2.2.2.2.2.1, x.2.2.2.2.2.2.1, x.2.2.2.2.2.2.2.1, x.2.2.2.2.2.2.2.2.1, x.2.2.2.2.2.2.2.2.2.1, x.2.2.2.2.2.2.2.2.2.2.1, ()))
noncomputable def split_Whole.l2 (x : (List (Int × Int × Int × Int)) × Bool × (Int × Int × Int × Int) × Int × (Int × Int × Int × Int) × (List (Int × Int × Int × Int)) × Int × Int × (List (Int × Int × Int × Int)) × Int × Int × Unit) : Option (Ex × (List (Int × Int × Int × Int)) × Bool × (Int × Int × Int × Int) × Int × (Int × Int × Int × Int) × (List (Int × Int × Int × Int)) × Int × Int × (List (Int × Int × Int × Int)) × Int × Int × Unit) := (iterT split_Whole.t2 rounds x).run
theorem split_Whole.k2 : bodies 2 (lp Try.f37 [0]) = [.loop (loopIn 2 (lp Try.f37 [0]))] ∧ WP Try.prog 0 (.block 2 (.loop (loopIn 2 (lp Try.f37 [0])))) (loopS split_Whole.L2 74 2 [.exit 2, .ret] split_Whole.l2) :=
  loop_tree (L := split_Whole.L2) (F := ({ quiet := (ext (ext (ext noQ 68 split_may.q) 42 split_Meet.q) 43 split_Size.q), deep := noDeep } : Fns)) (D := D0) (tab := []) (t := split_Whole.t2) mixed (quiet_ext (quiet_ext (quiet_ext (quiet_none _) split_may.ok) split_Meet.ok) split_Size.ok) (deep_none _) (fun _ => rfl) (by kernel_rfl) (by kernel_rfl) trivial (fun x => by kernel_rfl)
def split_Whole.L0 : List (Nat × Lay) := [(2, .val (.sl TRect)), (6, .val .bool), (7, .box TRect), (8, .val TI), (29, .val (.sl TRect)), (30, .val TI), (31, .val TI)]
noncomputable def split_Whole.t0 (x : (List (Int × Int × Int × Int)) × Bool × (Int × Int × Int × Int) × Int × (List (Int × Int × Int × Int)) × Int × Int × Unit) : T (Ex × (List (Int × Int × Int × Int)) × Bool × (Int × Int × Int × Int) × Int × (List (Int × Int × Int × Int)) × Int × Int × Unit) := T.ite (decide (x.2.2.2.2.2.2.1 < x.2.2.2.2.2.1)) (T.opt (lget x.2.2.2.2.1 x.2.2.2.2.2.2.1) fun y => T.opt (split_Meet (y, x.2.2.1)) fun y_1 => T.ite (!y_1.snd || !(y_1.fst.fst == y.1 && (y_1.fst.snd.fst == y.2.1 && (y_1.fst.snd.snd.fst == y.2.2.1 && y_1.fst.snd.snd.snd == y.2.2.2)))) (T.ret (Ex.ret, x.1, false, x.2.2.1, x.2.2.2.1, x.2.2.2.2.1, x.2.2.2.2.2.1, x.2.2.2.2.2.2.1, ())) (T.ite (decide (0 ≤ 0) && decide (0 ≤ x.2.2.2.2.2.2.1) && decide (x.2.2.2.2.2.2.1 ≤ (↑(List.length x.1) : Int))) (T.opt (split_Whole.l2 (x.1, x.2.1, x.2.2.1, x.2.2.2.1, y, x.2.2.2.2.1, x.2.2.2.2.2.1, x.2.2.2.2.2.2.1, List.take (Int.toNat x.2.2.2.2.2.2.1 - Int.toNat 0) (List.drop (Int.toNat 0) x.1), (↑(List.take (Int.toNat x.2.2.2.2.2.2.1 - Int.toNat 0) (List.drop (Int.toNat 0) x.1)).length : Int), 0, ())) fun y => T.ite (exEq y.1 (Ex.exit 2)) (T.opt (split_Size y.2.2.2.2.2.1) fun y_2 => T.ret (Ex.normal, y.2.1, y.2.2.1, y.2.2.2.1, W (y.2.2.2.2.1 + y_2), y.2.2.2.2.2.2.1, y.2.2.2.2.2.2.2.1, W (y.2.2.2.2.2.2.2.2.1 + 1), ())) (T.ite (exEq y.1 Ex.ret) (T.ret (Ex.ret, y.2.1, y.2.2.1, y.2.2.2.1, y.2.2.2.2.1, y.2.2.2.2.2.2.1, y.2.2.2.2.2.2.2.1, y.2.2.2.2.2.2.2.2.1, ())) T.fail)) T.fail)) (T.ret (Ex.exit 0, x.1, x.2.1, x.2.2.1, x.2.2.2.1, x.2.2.2.2.1, x.2.2.2.2.2.1, x.2.2.2.2.2.2.1, ()))
noncomputable def split_Whole.l0 (x : (List (Int × Int × Int × Int)) × Bool × (Int × Int × Int × Int) × Int × (List (Int × Int × Int × Int)) × Int × Int × Unit) : Option (Ex × (List (Int × Int × Int × Int)) × Bool × (Int × Int × Int × Int) × Int × (List (Int × Int × Int × Int)) × Int × Int × Unit) := (iterT split_Whole.t0 rounds x).run
theorem split_Whole.k0 : bodies 0 (lp Try.f37 []) = [.loop (loopIn 0 (lp Try.f37 []))] ∧ WP Try.prog 0 (.block 0 (.loop (loopIn 0 (lp Try.f37 [])))) (loopS split_Whole.L0 74 0 [.exit 0, .ret] split_Whole.l0) :=
  loop_tree (L := split_Whole.L0) (F := ({ quiet := (ext (ext (ext noQ 68 split_may.q) 42 split_Meet.q) 43 split_Size.q), deep := noDeep } : Fns)) (D := D0) (tab := [(2, loopS split_Whole.L2 74 2 [.exit 2, .ret] split_Whole.l2)]) (t := split_Whole.t0) mixed (quiet_ext (quiet_ext (quiet_ext (quiet_none _) split_may.ok) split_Meet.ok) split_Size.ok) (deep_none _) (fun _ => rfl) (by kernel_rfl) (by kernel_rfl) ⟨split_Whole.k2, trivial⟩ (fun x => by kernel_rfl)
noncomputable def split_Whole.t (x : Int × Int × (List (Int × Int × Int × Int))) : T (Bool) := T.ite (!(decide ((if x.2.1 < x.1 then x.2.1 else x.1) ≥ 1) && decide ((if x.2.1 > x.1 then x.2.1 else x.1) ≤ 8192) && decide (W (x.1 * x.2.1) ≤ 65536)) || decide ((↑(List.length x.2.2) : Int) > 4096)) (T.ret false) (T.opt (split_Whole.l0 (x.2.2, false, (0, 0, x.1, x.2.1), 0, x.2.2, (↑(List.length x.2.2) : Int), 0, ())) fun y => T.ite (exEq y.1 (Ex.exit 0)) (T.opt (split_Size y.2.2.2.1) fun y_1 => T.ret (y.2.2.2.2.1 == y_1)) (T.ite (exEq y.1 Ex.ret) (T.ret y.2.2.1) T.fail))
noncomputable def split_Whole (x : Int × Int × (List (Int × Int × Int × Int))) : Option (Bool) := (split_Whole.t x).run
noncomputable def split_Whole.q : List AV → T AV := entry [TI, TI, (.sl TRect)] (outR [.bool]) fun x => .opt (split_Whole x) .ret
theorem split_Whole.ok : FnOK Try.prog 37 split_Whole.q :=
  entry_call (ps := [TI, TI, (.sl TRect)]) (rs := [.bool]) (F := ({ quiet := (ext (ext (ext noQ 68 split_may.q) 42 split_Meet.q) 43 split_Size.q), deep := noDeep } : Fns)) (D := D0) (S := tabS [(0, loopS split_Whole.L0 74 0 [.exit 0, .ret] split_Whole.l0)]) (t := split_Whole.t) mixed (quiet_ext (quiet_ext (quiet_ext (quiet_none _) split_may.ok) split_Meet.ok) split_Size.ok) (deep_none _) Try.func37 (by kernel_rfl) (sok_fn ⟨split_Whole.k0, trivial⟩) (by kernel_rfl) (fun x => by kernel_rfl)
end Go.Proofs.Pen

namespace Go.Proofs.Pen
open Go Go.Proofs
noncomputable def split_Has.t (x : (Int × Int × Int × Int) × Int × Int) : T (Bool) := T.ret (decide (x.2.1 ≥ x.1.1) && decide (x.2.1 < x.1.2.2.1) && decide (x.2.2 ≥ x.1.2.1) && decide (x.2.2 < x.1.2.2.2))
noncomputable def split_Has.q : List AV → T AV := entry [TRect, TI, TI] (outR [.bool]) split_Has.t
theorem split_Has.ok : FnOK Try.prog 39 split_Has.q :=
  entry_in (ps := [TRect, TI, TI]) (rs := [.bool]) (F := ({ quiet := noQ, deep := noDeep } : Fns)) (D := D0) (S := tabS []) (t := split_Has.t) mixed (quiet_none _) (deep_none _) Try.func39 (by kernel_rfl) (sok_fn trivial) (by kernel_rfl) (fun x => by kernel_rfl)
end Go.Proofs.Pen

namespace Go.Proofs.Pen
open Go Go.Proofs
noncomputable def split_Of_1.t (x : (Int × Int × Int × Int) × Int × Int) : T (Bool) := T.ret (decide (x.2.1 ≥ x.1.1) && decide (x.2.1 < x.1.2.2.1) && decide (x.2.2 ≥ x.1.2.1) && decide (x.2.2 < x.1.2.2.2))
noncomputable def split_Of_1.q : List AV → T AV := entry [TRect, (.ptr TI), (.ptr TI)] (outR [.bool]) split_Of_1.t
theorem split_Of_1.ok : FnOK Try.prog 72 split_Of_1.q :=
  entry_in (ps := [TRect, (.ptr TI), (.ptr TI)]) (rs := [.bool]) (F := ({ quiet := (ext noQ 39 split_Has.q), deep := noDeep } : Fns)) (D := D0) (S := tabS []) (t := split_Of_1.t) mixed (quiet_ext (quiet_none _) split_Has.ok) (deep_none _) Try.func72 (by kernel_rfl) (sok_fn trivial) (by kernel_rfl) (fun x => by kernel_rfl)
end Go.Proofs.Pen

namespace Go.Proofs.Pen
open Go Go.Proofs
def IndexFunc_Of.L0 : List (Nat × Lay) := [(0, .val (.sl TRect)), (1, .val (.clo 72 (.pair (.ptr TI) (.ptr TI)))), (4, .val TI), (7, .val TI), (8, .val TI)]
noncomputable def IndexFunc_Of.t0 (x : (List (Int × Int × Int × Int)) × (Int × Int) × Int × Int × Int × Unit) : T (Ex × (List (Int × Int × Int × Int)) × (Int × Int) × Int × Int × Int × Unit) := T.ite (decide (x.2.2.2.2.1 < x.2.2.2.1)) (T.opt (lget x.1 x.2.2.2.2.1) fun y => T.ite (decide (x.2.1.1 ≥ y.1) && decide (x.2.1.1 < y.2.2.1) && decide (x.2.1.2 ≥ y.2.1) && decide (x.2.1.2 < y.2.2.2)) (T.ret (Ex.ret, x.1, x.2.1, x.2.2.2.2.1, x.2.2.2.1, x.2.2.2.2.1, ())) (T.ret (Ex.normal, x.1, x.2.1, x.2.2.1, x.2.2.2.1, W (x.2.2.2.2.1 + 1), ()))) (T.ret (Ex.exit 0, x.1, x.2.1, x.2.2.1, x.2.2.2.1, x.2.2.2.2.1, ()))
noncomputable def IndexFunc_Of.l0 (x : (List (Int × Int × Int × Int)) × (Int × Int) × Int × Int × Int × Unit) : Option (Ex × (List (Int × Int × Int × Int)) × (Int × Int) × Int × Int × Int × Unit) := (iterT IndexFunc_Of.t0 rounds x).run
theorem IndexFunc_Of.k0 : bodies 0 (lp Try.f71 []) = [.loop (loopIn 0 (lp Try.f71 []))] ∧ WP Try.prog 0 (.block 0 (.loop (loopIn 0 (lp Try.f71 [])))) (loopS IndexFunc_Of.L0 19 0 [.exit 0, .ret] IndexFunc_Of.l0) :=
  loop_tree (L := IndexFunc_Of.L0) (F := ({ quiet := (ext noQ 72 split_Of_1.q), deep := noDeep } : Fns)) (D := D0) (tab := []) (t := IndexFunc_Of.t0) mixed (quiet_ext (quiet_none _) split_Of_1.ok) (deep_none _) (fun _ => rfl) (by kernel_rfl) (by kernel_rfl) trivial (fun x => by kernel_rfl)
noncomputable def IndexFunc_Of.t (x : (List (Int × Int × Int × Int)) × (Int × Int)) : T (Int) := T.opt (IndexFunc_Of.l0 (x.1, x.2, 0, (↑(List.length x.1) : Int), 0, ())) fun y => T.ite (exEq y.1 (Ex.exit 0)) (T.ret (-1)) (T.ite (exEq y.1 Ex.ret) (T.ret y.2.2.2.1) T.fail)
noncomputable def IndexFunc_Of (x : (List (Int × Int × Int × Int)) × (Int × Int)) : Option (Int) := (IndexFunc_Of.t x).run
noncomputable def IndexFunc_Of.q : List AV → T AV := entry [(.sl TRect), (.clo 72 (.pair (.ptr TI) (.ptr TI)))] (outR [TI]) fun x => .opt (IndexFunc_Of x) .ret
theorem IndexFunc_Of.ok : FnOK Try.prog 71 IndexFunc_Of.q :=
  entry_call (ps := [(.sl TRect), (.clo 72 (.pair (.ptr TI) (.ptr TI)))]) (rs := [TI]) (F := ({ quiet := (ext noQ 72 split_Of_1.q), deep := noDeep } : Fns)) (D := D0) (S := tabS [(0, loopS IndexFunc_Of.L0 19 0 [.exit 0, .ret] IndexFunc_Of.l0)]) (t := IndexFunc_Of.t) mixed (quiet_ext (quiet_none _) split_Of_1.ok) (deep_none _) Try.func71 (by kernel_rfl) (sok_fn ⟨IndexFunc_Of.k0, trivial⟩) (by kernel_rfl) (fun x => by kernel_rfl)
end Go.Proofs.Pen

namespace Go.Proofs.Pen
open Go Go.Proofs
noncomputable def split_Of.t (x : Int × Int × (List (Int × Int × Int × Int))) : T (Int) := T.opt (IndexFunc_Of (x.2.2, x.1, x.2.1)) fun y => T.ret y
noncomputable def split_Of (x : Int × Int × (List (Int × Int × Int × Int))) : Option (Int) := (split_Of.t x).run
noncomputable def split_Of.q : List AV → T AV := entry [TI, TI, (.sl TRect)] (outR [TI]) fun x => .opt (split_Of x) .ret
theorem split_Of.ok : FnOK Try.prog 41 split_Of.q :=
  entry_call (ps := [TI, TI, (.sl TRect)]) (rs := [TI]) (F := ({ quiet := (ext (ext noQ 72 split_Of_1.q) 71 IndexFunc_Of.q), deep := noDeep } : Fns)) (D := D0) (S := tabS []) (t := split_Of.t) mixed (quiet_ext (quiet_ext (quiet_none _) split_Of_1.ok) IndexFunc_Of.ok) (deep_none _) Try.func41 (by kernel_rfl) (sok_fn trivial) (by kernel_rfl) (fun x => by kernel_rfl)
end Go.Proofs.Pen

namespace Go.Proofs.Pen
open Go Go.Proofs
noncomputable def law37_awake.t (_ : Unit) : T (Bool) := T.opt (split_Tiles (3, 2, 2)) fun y => T.opt (split_Bands (3, 3, 2)) fun y_1 => T.ite ((↑(List.length y.1) : Int) == 2 && y.2 == 0) (T.opt (lget y.1 0) fun y_2 => T.opt (split_Size y_2) fun y_3 => T.ite (y_3 == 4) (T.opt (lget y.1 1) fun y_4 => T.opt (split_Size y_4) fun y_5 => T.ite (y_5 == 2 && (↑(List.length y_1.fst) : Int) == 2 && y_1.snd == 0) (T.opt (lget y_1.fst 0) fun y_6 => T.ite (y_6.snd.snd.snd == 1) (T.opt (split_Whole (3, 2, y.1)) fun y_7 => T.ite y_7 (T.opt (split_Of (2, 0, y.1)) fun y => T.ret (y == 1)) (T.ret false)) (T.ret false)) (T.ret false)) (T.ret false)) (T.ret false)
noncomputable def law37_awake (x : Unit) : Option (Bool) := (law37_awake.t x).run
noncomputable def law37_awake.q : List AV → T AV := entry [] (outR [.bool]) fun x => .opt (law37_awake x) .ret
theorem law37_awake.ok : FnOK Try.prog 34 law37_awake.q :=
  entry_call (ps := []) (rs := [.bool]) (F := ({ quiet := (ext (ext (ext (ext (ext (ext (ext noQ 32 split_Tiles.q) 38 split_Bands.q) 43 split_Size.q) 37 split_Whole.q) 41 split_Of.q) 70 split_Bands_1.q) 72 split_Of_1.q), deep := noDeep } : Fns)) (D := D0) (S := tabS []) (t := law37_awake.t) mixed (quiet_ext (quiet_ext (quiet_ext (quiet_ext (quiet_ext (quiet_ext (quiet_ext (quiet_none _) split_Tiles.ok) split_Bands.ok) split_Size.ok) split_Whole.ok) split_Of.ok) split_Bands_1.ok) split_Of_1.ok) (deep_none _) Try.func34 (by kernel_rfl) (sok_fn trivial) (by kernel_rfl) (fun x => by kernel_rfl)
end Go.Proofs.Pen

namespace Go.Proofs.Pen
open Go Go.Proofs
noncomputable def ref01_Low.t (x : Int × Int) : T (Int) := T.ite (decide (x.1 < x.2)) (T.ret x.1) (T.ret x.2)
noncomputable def ref01_Low (x : Int × Int) : Option (Int) := (ref01_Low.t x).run
noncomputable def ref01_Low.q : List AV → T AV := entry [TI, TI] (outR [TI]) fun x => .opt (ref01_Low x) .ret
theorem ref01_Low.ok : FnOK Try.prog 35 ref01_Low.q :=
  entry_call (ps := [TI, TI]) (rs := [TI]) (F := ({ quiet := noQ, deep := noDeep } : Fns)) (D := D0) (S := tabS []) (t := ref01_Low.t) mixed (quiet_none _) (deep_none _) Try.func35 (by kernel_rfl) (sok_fn trivial) (by kernel_rfl) (fun x => by kernel_rfl)
end Go.Proofs.Pen

namespace Go.Proofs.Pen
open Go Go.Proofs
noncomputable def ref37_Fits.t (x : (Int × Int × Int × Int) × Int × Int) : T (Bool) := T.ret (decide (x.1.1 ≥ 0) && decide (x.1.2.1 ≥ 0) && decide (x.1.2.2.1 > x.1.1) && decide (x.1.2.2.2 > x.1.2.1) && decide (x.1.2.2.1 ≤ x.2.1) && decide (x.1.2.2.2 ≤ x.2.2))
noncomputable def ref37_Fits.q : List AV → T AV := entry [TRect, TI, TI] (outR [.bool]) ref37_Fits.t
theorem ref37_Fits.ok : FnOK Try.prog 69 ref37_Fits.q :=
  entry_in (ps := [TRect, TI, TI]) (rs := [.bool]) (F := ({ quiet := noQ, deep := noDeep } : Fns)) (D := D0) (S := tabS []) (t := ref37_Fits.t) mixed (quiet_none _) (deep_none _) Try.func69 (by kernel_rfl) (sok_fn trivial) (by kernel_rfl) (fun x => by kernel_rfl)
end Go.Proofs.Pen

namespace Go.Proofs.Pen
open Go Go.Proofs
noncomputable def ref37_Has.t (x : (Int × Int × Int × Int) × Int × Int) : T (Bool) := T.ret (decide (x.1.1 ≤ x.2.1) && decide (x.2.1 < x.1.2.2.1) && decide (x.1.2.1 ≤ x.2.2) && decide (x.2.2 < x.1.2.2.2))
noncomputable def ref37_Has.q : List AV → T AV := entry [TRect, TI, TI] (outR [.bool]) ref37_Has.t
theorem ref37_Has.ok : FnOK Try.prog 40 ref37_Has.q :=
  entry_in (ps := [TRect, TI, TI]) (rs := [.bool]) (F := ({ quiet := noQ, deep := noDeep } : Fns)) (D := D0) (S := tabS []) (t := ref37_Has.t) mixed (quiet_none _) (deep_none _) Try.func40 (by kernel_rfl) (sok_fn trivial) (by kernel_rfl) (fun x => by kernel_rfl)
end Go.Proofs.Pen

namespace Go.Proofs.Pen
open Go Go.Proofs
def ref37_Whole.L0 : List (Nat × Lay) := [(0, .val TI), (1, .val TI), (2, .val (.sl TRect)), (6, .val .bool), (7, .val TI)]
noncomputable def ref37_Whole.t0 (x : Int × Int × (List (Int × Int × Int × Int)) × Bool × Int × Unit) : T (Ex × Int × Int × (List (Int × Int × Int × Int)) × Bool × Int × Unit) := T.ite (decide (x.2.2.2.2.1 < (↑(List.length x.2.2.1) : Int))) (T.opt (lget x.2.2.1 x.2.2.2.2.1) fun y => T.ite (!(decide (y.1 ≥ 0) && decide (y.2.1 ≥ 0) && decide (y.2.2.1 > y.1) && decide (y.2.2.2 > y.2.1) && decide (y.2.2.1 ≤ x.1) && decide (y.2.2.2 ≤ x.2.1))) (T.ret (Ex.ret, x.1, x.2.1, x.2.2.1, false, x.2.2.2.2.1, ())) (T.ret (Ex.normal, x.1, x.2.1, x.2.2.1, x.2.2.2.1, W (x.2.2.2.2.1 + 1), ()))) (T.ret (Ex.exit 0, x.1, x.2.1, x.2.2.1, x.2.2.2.1, x.2.2.2.2.1, ()))
noncomputable def ref37_Whole.l0 (x : Int × Int × (List (Int × Int × Int × Int)) × Bool × Int × Unit) : Option (Ex × Int × Int × (List (Int × Int × Int × Int)) × Bool × Int × Unit) := (iterT ref37_Whole.t0 rounds x).run
theorem ref37_Whole.k0 : bodies 0 (lp Try.f36 []) = [.loop (loopIn 0 (lp Try.f36 []))] ∧ WP Try.prog 0 (.block 0 (.loop (loopIn 0 (lp Try.f36 [])))) (loopS ref37_Whole.L0 53 0 [.exit 0, .ret] ref37_Whole.l0) :=
  loop_tree (L := ref37_Whole.L0) (F := ({ quiet := (ext (ext noQ 69 ref37_Fits.q) 40 ref37_Has.q), deep := noDeep } : Fns)) (D := D0) (tab := []) (t := ref37_Whole.t0) mixed (quiet_ext (quiet_ext (quiet_none _) ref37_Fits.ok) ref37_Has.ok) (deep_none _) (fun _ => rfl) (by kernel_rfl) (by kernel_rfl) trivial (fun x => by kernel_rfl)
def ref37_Whole.L4 : List (Nat × Lay) := [(0, .val TI), (1, .val TI), (2, .val (.sl TRect)), (6, .val .bool), (8, .val TI), (9, .val TI), (10, .val TI)]
noncomputable def ref37_Whole.t4 (x : Int × Int × (List (Int × Int × Int × Int)) × Bool × Int × Int × Int × Unit) : T (Ex × Int × Int × (List (Int × Int × Int × Int)) × Bool × Int × Int × Int × Unit) := T.ite (decide (x.2.2.2.2.2.2.1 < (↑(List.length x.2.2.1) : Int))) (T.opt (lget x.2.2.1 x.2.2.2.2.2.2.1) fun y => T.ite (x.1 == 0) T.fail (T.ite (x.1 == 0) T.fail (T.ite (decide (y.1 ≤ Int.tmod x.2.2.2.2.1 x.1) && decide (Int.tmod x.2.2.2.2.1 x.1 < y.2.2.1) && decide (y.2.1 ≤ W (Int.tdiv x.2.2.2.2.1 x.1)) && decide (W (Int.tdiv x.2.2.2.2.1 x.1) < y.2.2.2)) (T.ret (Ex.normal, x.1, x.2.1, x.2.2.1, x.2.2.2.1, x.2.2.2.2.1, W (x.2.2.2.2.2.1 + 1), W (x.2.2.2.2.2.2.1 + 1), ())) (T.ret (Ex.normal, x.1, x.2.1, x.2.2.1, x.2.2.2.1, x.2.2.2.2.1, x.2.2.2.2.2.1, W (x.2.2.2.2.2.2.1 + 1), ()))))) (T.ret (Ex.exit 4, x.1, x.2.1, x.2.2.1, x.2.2.2.1, x.2.2.2.2.1, x.2.2.2.2.2.1, x.2.2.2.2.2.2.1, ()))
noncomputable def ref37_Whole.l4 (x : Int × Int × (List (Int × Int × Int × Int)) × Bool × Int × Int × Int × Unit) : Option (Ex × Int × Int × (List (Int × Int × Int × Int)) × Bool × Int × Int × Int × Unit) := (iterT ref37_Whole.t4 rounds x).run
theorem ref37_Whole.k4 : bodies 4 (lp Try.f36 [2]) = [.loop (loopIn 4 (lp Try.f36 [2]))] ∧ WP Try.prog 0 (.block 4 (.loop (loopIn 4 (lp Try.f36 [2])))) (loopS ref37_Whole.L4 53 4 [.exit 4] ref37_Whole.l4) :=
  loop_tree (L := ref37_Whole.L4) (F := ({ quiet := (ext (ext noQ 69 ref37_Fits.q) 40 ref37_Has.q), deep := noDeep } : Fns)) (D := D0) (tab := []) (t := ref37_Whole.t4) mixed (quiet_ext (quiet_ext (quiet_none _) ref37_Fits.ok) ref37_Has.ok) (deep_none _) (fun _ => rfl) (by kernel_rfl) (by kernel_rfl) trivial (fun x => by kernel_rfl)
def ref37_Whole.L2 : List (Nat × Lay) := [(0, .val TI), (1, .val TI), (2, .val (.sl TRect)), (6, .val .bool), (8, .val TI)]
noncomputable def ref37_Whole.t2 (x : Int × Int × (List (Int × Int × Int × Int)) × Bool × Int × Unit) : T (Ex × Int × Int × (List (Int × Int × Int × Int)) × Bool × Int × Unit) := T.ite (decide (x.2.2.2.2.1 < W (x.1 * x.2.1))) (T.opt (ref37_Whole.l4 (x.1, x.2.1, x.2.2.1, x.2.2.2.1, x.2.2.2.2.1, 0, 0, ())) fun y => T.ite (exEq y.1 (Ex.exit 4)) (T.ite (y.2.2.2.2.2.2.1 != 1) (T.ret (Ex.ret, y.2.1, y.2.2.1, y.2.2.2.1, false, y.2.2.2.2.2.1, ())) (T.ret (Ex.normal, y.2.1, y.2.2.1, y.2.2.2.1, y.2.2.2.2.1, W (y.2.2.2.2.2.1 + 1), ()))) T.fail) (T.ret (Ex.exit 2, x.1, x.2.1, x.2.2.1, x.2.2.2.1, x.2.2.2.2.1, ()))
noncomputable def ref37_Whole.l2 (x : Int × Int × (List (Int × Int × Int × Int)) × Bool × Int × Unit) : Option (Ex × Int × Int × (List (Int × Int × Int × Int)) × Bool × Int × Unit) := (iterT ref37_Whole.t2 rounds x).run
theorem ref37_Whole.k2 : bodies 2 (lp Try.f36 []) = [.loop (loopIn 2 (lp Try.f36 []))] ∧ WP Try.prog 0 (.block 2 (.loop (loopIn 2 (lp Try.f36 [])))) (loopS ref37_Whole.L2 53 2 [.exit 2, .ret] ref37_Whole.l2) :=
  loop_tree (L := ref37_Whole.L2) (F := ({ quiet := (ext (ext noQ 69 ref37_Fits.q) 40 ref37_Has.q), deep := noDeep } : Fns)) (D := D0) (tab := [(4, loopS ref37_Whole.L4 53 4 [.exit 4] ref37_Whole.l4)]) (t := ref37_Whole.t2) mixed (quiet_ext (quiet_ext (quiet_none _) ref37_Fits.ok) ref37_Has.ok) (deep_none _) (fun _ => rfl) (by kernel_rfl) (by kernel_rfl) ⟨ref37_Whole.k4, trivial⟩ (fun x => by kernel_rfl)
noncomputable def ref37_Whole.t (x : Int × Int × (List (Int × Int × Int × Int))) : T (Bool) := T.opt (ref37_Whole.l0 (x.1, x.2.1, x.2.2, false, 0, ())) fun y => T.ite (exEq y.1 (Ex.exit 0)) (T.opt (ref37_Whole.l2 (y.2.1, y.2.2.1, y.2.2.2.1, y.2.2.2.2.1, 0, ())) fun y => T.ite (exEq y.1 (Ex.exit 2)) (T.ret true) (T.ite (exEq y.1 Ex.ret) (T.ret y.2.2.2.2.1) T.fail)) (T.ite (exEq y.1 Ex.ret) (T.ret y.2.2.2.2.1) T.fail)
noncomputable def ref37_Whole (x : Int × Int × (List (Int × Int × Int × Int))) : Option (Bool) := (ref37_Whole.t x).run
noncomputable def ref37_Whole.q : List AV → T AV := entry [TI, TI, (.sl TRect)] (outR [.bool]) fun x => .opt (ref37_Whole x) .ret
theorem ref37_Whole.ok : FnOK Try.prog 36 ref37_Whole.q :=
  entry_call (ps := [TI, TI, (.sl TRect)]) (rs := [.bool]) (F := ({ quiet := (ext (ext noQ 69 ref37_Fits.q) 40 ref37_Has.q), deep := noDeep } : Fns)) (D := D0) (S := tabS [(0, loopS ref37_Whole.L0 53 0 [.exit 0, .ret] ref37_Whole.l0), (2, loopS ref37_Whole.L2 53 2 [.exit 2, .ret] ref37_Whole.l2)]) (t := ref37_Whole.t) mixed (quiet_ext (quiet_ext (quiet_none _) ref37_Fits.ok) ref37_Has.ok) (deep_none _) Try.func36 (by kernel_rfl) (sok_fn ⟨ref37_Whole.k0, ref37_Whole.k2, trivial⟩) (by kernel_rfl) (fun x => by kernel_rfl)
end Go.Proofs.Pen

namespace Go.Proofs.Pen
open Go Go.Proofs
def law37_SplitTiles.L0 : List (Nat × Lay) := [(0, .val TI), (1, .val TI), (2, .val TI), (6, .val .bool), (7, .val (.sl TRect)), (9, .val TI), (11, .val TI)]
noncomputable def law37_SplitTiles.t0 (x : Int × Int × Int × Bool × (List (Int × Int × Int × Int)) × Int × Int × Unit) : T (Ex × Int × Int × Int × Bool × (List (Int × Int × Int × Int)) × Int × Int × Unit) := T.ite (decide (x.2.2.2.2.2.2.1 < (↑(List.length x.2.2.2.2.1) : Int))) (T.ite (x.2.2.2.2.2.1 == 0) T.fail (T.ite (x.2.2.2.2.2.1 == 0) T.fail (T.opt (lget x.2.2.2.2.1 x.2.2.2.2.2.2.1) fun y => T.opt (ref01_Low (W (W (Int.tmod x.2.2.2.2.2.2.1 x.2.2.2.2.2.1 * x.2.2.1) + x.2.2.1), x.1)) fun y_1 => T.opt (ref01_Low (W (W (W (Int.tdiv x.2.2.2.2.2.2.1 x.2.2.2.2.2.1) * x.2.2.1) + x.2.2.1), x.2.1)) fun y_2 => T.ite (!(y.1 == W (Int.tmod x.2.2.2.2.2.2.1 x.2.2.2.2.2.1 * x.2.2.1) && (y.2.1 == W (W (Int.tdiv x.2.2.2.2.2.2.1 x.2.2.2.2.2.1) * x.2.2.1) && (y.2.2.1 == y_1 && y.2.2.2 == y_2)))) (T.ret (Ex.ret, x.1, x.2.1, x.2.2.1, false, x.2.2.2.2.1, x.2.2.2.2.2.1, x.2.2.2.2.2.2.1, ())) (T.ret (Ex.normal, x.1, x.2.1, x.2.2.1, x.2.2.2.1, x.2.2.2.2.1, x.2.2.2.2.2.1, W (x.2.2.2.2.2.2.1 + 1), ()))))) (T.ret (Ex.exit 0, x.1, x.2.1, x.2.2.1, x.2.2.2.1, x.2.2.2.2.1, x.2.2.2.2.2.1, x.2.2.2.2.2.2.1, ()))
noncomputable def law37_SplitTiles.l0 (x : Int × Int × Int × Bool × (List (Int × Int × Int × Int)) × Int × Int × Unit) : Option (Ex × Int × Int × Int × Bool × (List (Int × Int × Int × Int)) × Int × Int × Unit) := (iterT law37_SplitTiles.t0 rounds x).run
theorem law37_SplitTiles.k0 : bodies 0 (lp Try.f7 []) = [.loop (loopIn 0 (lp Try.f7 []))] ∧ WP Try.prog 0 (.block 0 (.loop (loopIn 0 (lp Try.f7 [])))) (loopS law37_SplitTiles.L0 143 0 [.exit 0, .ret] law37_SplitTiles.l0) :=
  loop_tree (L := law37_SplitTiles.L0) (F := ({ quiet := (ext (ext (ext (ext (ext (ext (ext (ext noQ 32 split_Tiles.q) 33 ref37_May.q) 34 law37_awake.q) 35 ref01_Low.q) 36 ref37_Whole.q) 37 split_Whole.q) 70 split_Bands_1.q) 72 split_Of_1.q), deep := noDeep } : Fns)) (D := D0) (tab := []) (t := law37_SplitTiles.t0) mixed (quiet_ext (quiet_ext (quiet_ext (quiet_ext (quiet_ext (quiet_ext (quiet_ext (quiet_ext (quiet_none _) split_Tiles.ok) ref37_May.ok) law37_awake.ok) ref01_Low.ok) ref37_Whole.ok) split_Whole.ok) split_Bands_1.ok) split_Of_1.ok) (deep_none _) (fun _ => rfl) (by kernel_rfl) (by kernel_rfl) trivial (fun x => by kernel_rfl)
noncomputable def law37_SplitTiles.t (x : Int × Int × Int) : T (Bool) := T.opt (split_Tiles x) fun y => T.ite (!(decide (x.1 ≥ 1) && decide (x.2.1 ≥ 1) && decide (x.1 ≤ 8192) && decide (x.2.1 ≤ 8192) && decide (W (x.1 * x.2.1) ≤ 65536))) (T.opt (law37_awake ()) fun y_1 => T.ret (y_1 && (↑(List.length y.1) : Int) == 0 && y.2 == 12)) (T.ite (decide (x.2.2 < 1) || decide (x.2.2 > 8192)) (T.opt (law37_awake ()) fun y_1 => T.ret (y_1 && (↑(List.length y.1) : Int) == 0 && y.2 == 3)) (T.ite (x.2.2 == 0) T.fail (T.ite (x.2.2 == 0) T.fail (T.ite (decide (W (W (W ((W (x.1 - 1)).tdiv x.2.2) + 1) * W (W ((W (x.2.1 - 1)).tdiv x.2.2) + 1)) > 4096)) (T.opt (law37_awake ()) fun y_1 => T.ret (y_1 && (↑(List.length y.1) : Int) == 0 && y.2 == 4)) (T.ite (y.2 != 0 || (↑(List.length y.1) : Int) != W (W (W ((W (x.1 - 1)).tdiv x.2.2) + 1) * W (W ((W (x.2.1 - 1)).tdiv x.2.2) + 1))) (T.ret false) (T.opt (law37_SplitTiles.l0 (x.1, x.2.1, x.2.2, false, y.1, W (W ((W (x.1 - 1)).tdiv x.2.2) + 1), 0, ())) fun y => T.ite (exEq y.1 (Ex.exit 0)) (T.opt (law37_awake ()) fun y_1 => T.ite y_1 (T.ite (decide (W (y.2.1 * y.2.2.1) > 300)) (T.ite (decide ((↑(List.length y.2.2.2.2.2.1) : Int) > 300)) (T.ret true) (T.opt (split_Whole (y.2.1, y.2.2.1, y.2.2.2.2.2.1)) fun y => T.ret y)) (T.opt (ref37_Whole (y.2.1, y.2.2.1, y.2.2.2.2.2.1)) fun y_2 => T.ite y_2 (T.ite (decide ((↑(List.length y.2.2.2.2.2.1) : Int) > 300)) (T.ret true) (T.opt (split_Whole (y.2.1, y.2.2.1, y.2.2.2.2.2.1)) fun y => T.ret y)) (T.ret false))) (T.ret false)) (T.ite (exEq y.1 Ex.ret) (T.ret y.2.2.2.2.1) T.fail)))))))
noncomputable def law37_SplitTiles (x : Int × Int × Int) : Option (Bool) := (law37_SplitTiles.t x).run
noncomputable def law37_SplitTiles.q : List AV → T AV := entry [TI, TI, TI] (outR [.bool]) fun x => .opt (law37_SplitTiles x) .ret
theorem law37_SplitTiles.ok : FnOK Try.prog 7 law37_SplitTiles.q :=
  entry_call (ps := [TI, TI, TI]) (rs := [.bool]) (F := ({ quiet := (ext (ext (ext (ext (ext (ext (ext (ext noQ 32 split_Tiles.q) 33 ref37_May.q) 34 law37_awake.q) 35 ref01_Low.q) 36 ref37_Whole.q) 37 split_Whole.q) 70 split_Bands_1.q) 72 split_Of_1.q), deep := noDeep } : Fns)) (D := D0) (S := tabS [(0, loopS law37_SplitTiles.L0 143 0 [.exit 0, .ret] law37_SplitTiles.l0)]) (t := law37_SplitTiles.t) mixed (quiet_ext (quiet_ext (quiet_ext (quiet_ext (quiet_ext (quiet_ext (quiet_ext (quiet_ext (quiet_none _) split_Tiles.ok) ref37_May.ok) law37_awake.ok) ref01_Low.ok) ref37_Whole.ok) split_Whole.ok) split_Bands_1.ok) split_Of_1.ok) (deep_none _) Try.func7 (by kernel_rfl) (sok_fn ⟨law37_SplitTiles.k0, trivial⟩) (by kernel_rfl) (fun x => by kernel_rfl)
end Go.Proofs.Pen

namespace Go.Proofs.Pen
open Go Go.Proofs
def law37_SplitBands.L0 : List (Nat × Lay) := [(0, .val TI), (1, .val TI), (2, .val TI), (6, .val .bool), (7, .val (.sl TRect)), (9, .val TI)]
noncomputable def law37_SplitBands.t0 (x : Int × Int × Int × Bool × (List (Int × Int × Int × Int)) × Int × Unit) : T (Ex × Int × Int × Int × Bool × (List (Int × Int × Int × Int)) × Int × Unit) := T.ite (decide (x.2.2.2.2.2.1 < (↑(List.length x.2.2.2.2.1) : Int))) (T.opt (lget x.2.2.2.2.1 x.2.2.2.2.2.1) fun y => T.ite (x.2.2.1 == 0) T.fail (T.ite (x.2.2.1 == 0) T.fail (T.ite (!(y.1 == 0 && (y.2.1 == W ((W (x.2.2.2.2.2.1 * x.2.1)).tdiv x.2.2.1) && (y.2.2.1 == x.1 && y.2.2.2 == W ((W (W (x.2.2.2.2.2.1 + 1) * x.2.1)).tdiv x.2.2.1))))) (T.ret (Ex.ret, x.1, x.2.1, x.2.2.1, false, x.2.2.2.2.1, x.2.2.2.2.2.1, ())) (T.ret (Ex.normal, x.1, x.2.1, x.2.2.1, x.2.2.2.1, x.2.2.2.2.1, W (x.2.2.2.2.2.1 + 1), ()))))) (T.ret (Ex.exit 0, x.1, x.2.1, x.2.2.1, x.2.2.2.1, x.2.2.2.2.1, x.2.2.2.2.2.1, ()))
noncomputable def law37_SplitBands.l0 (x : Int × Int × Int × Bool × (List (Int × Int × Int × Int)) × Int × Unit) : Option (Ex × Int × Int × Int × Bool × (List (Int × Int × Int × Int)) × Int × Unit) := (iterT law37_SplitBands.t0 rounds x).run
theorem law37_SplitBands.k0 : bodies 0 (lp Try.f8 []) = [.loop (loopIn 0 (lp Try.f8 []))] ∧ WP Try.prog 0 (.block 0 (.loop (loopIn 0 (lp Try.f8 [])))) (loopS law37_SplitBands.L0 103 0 [.exit 0, .ret] law37_SplitBands.l0) :=
  loop_tree (L := law37_SplitBands.L0) (F := ({ quiet := (ext (ext (ext (ext (ext (ext (ext noQ 38 split_Bands.q) 33 ref37_May.q) 34 law37_awake.q) 36 ref37_Whole.q) 37 split_Whole.q) 70 split_Bands_1.q) 72 split_Of_1.q), deep := noDeep } : Fns)) (D := D0) (tab := []) (t := law37_SplitBands.t0) mixed (quiet_ext (quiet_ext (quiet_ext (quiet_ext (quiet_ext (quiet_ext (quiet_ext (quiet_none _) split_Bands.ok) ref37_May.ok) law37_awake.ok) ref37_Whole.ok) split_Whole.ok) split_Bands_1.ok) split_Of_1.ok) (deep_none _) (fun _ => rfl) (by kernel_rfl) (by kernel_rfl) trivial (fun x => by kernel_rfl)
noncomputable def law37_SplitBands.t (x : Int × Int × Int) : T (Bool) := T.opt (split_Bands x) fun y => T.ite (!(decide (x.1 ≥ 1) && decide (x.2.1 ≥ 1) && decide (x.1 ≤ 8192) && decide (x.2.1 ≤ 8192) && decide (W (x.1 * x.2.1) ≤ 65536))) (T.opt (law37_awake ()) fun y_1 => T.ret (y_1 && (↑(List.length y.1) : Int) == 0 && y.2 == 12)) (T.ite (decide (x.2.2 < 1) || decide (x.2.2 > x.2.1)) (T.opt (law37_awake ()) fun y_1 => T.ret (y_1 && (↑(List.length y.1) : Int) == 0 && y.2 == 3)) (T.ite (y.2 != 0 || (↑(List.length y.1) : Int) != x.2.2) (T.ret false) (T.opt (law37_SplitBands.l0 (x.1, x.2.1, x.2.2, false, y.1, 0, ())) fun y => T.ite (exEq y.1 (Ex.exit 0)) (T.opt (law37_awake ()) fun y_1 => T.ite y_1 (T.ite (decide (W (y.2.1 * y.2.2.1) > 300)) (T.ite (decide (y.2.2.2.1 > 300)) (T.ret true) (T.opt (split_Whole (y.2.1, y.2.2.1, y.2.2.2.2.2.1)) fun y => T.ret y)) (T.opt (ref37_Whole (y.2.1, y.2.2.1, y.2.2.2.2.2.1)) fun y_2 => T.ite y_2 (T.ite (decide (y.2.2.2.1 > 300)) (T.ret true) (T.opt (split_Whole (y.2.1, y.2.2.1, y.2.2.2.2.2.1)) fun y => T.ret y)) (T.ret false))) (T.ret false)) (T.ite (exEq y.1 Ex.ret) (T.ret y.2.2.2.2.1) T.fail))))
noncomputable def law37_SplitBands (x : Int × Int × Int) : Option (Bool) := (law37_SplitBands.t x).run
noncomputable def law37_SplitBands.q : List AV → T AV := entry [TI, TI, TI] (outR [.bool]) fun x => .opt (law37_SplitBands x) .ret
theorem law37_SplitBands.ok : FnOK Try.prog 8 law37_SplitBands.q :=
  entry_call (ps := [TI, TI, TI]) (rs := [.bool]) (F := ({ quiet := (ext (ext (ext (ext (ext (ext (ext noQ 38 split_Bands.q) 33 ref37_May.q) 34 law37_awake.q) 36 ref37_Whole.q) 37 split_Whole.q) 70 split_Bands_1.q) 72 split_Of_1.q), deep := noDeep } : Fns)) (D := D0) (S := tabS [(0, loopS law37_SplitBands.L0 103 0 [.exit 0, .ret] law37_SplitBands.l0)]) (t := law37_SplitBands.t) mixed (quiet_ext (quiet_ext (quiet_ext (quiet_ext (quiet_ext (quiet_ext (quiet_ext (quiet_none _) split_Bands.ok) ref37_May.ok) law37_awake.ok) ref37_Whole.ok) split_Whole.ok) split_Bands_1.ok) split_Of_1.ok) (deep_none _) Try.func8 (by kernel_rfl) (sok_fn ⟨law37_SplitBands.k0, trivial⟩) (by kernel_rfl) (fun x => by kernel_rfl)
end Go.Proofs.Pen

namespace Go.Proofs.Pen
open Go Go.Proofs
def law37_SplitWhole.L0 : List (Nat × Lay) := [(2, .val .bool), (3, .val (.sl TRect)), (4, .val TI), (5, .val TI), (6, .val TI), (7, .val TI), (8, .val TI), (9, .val TI)]
noncomputable def law37_SplitWhole.t0 (x : Bool × (List (Int × Int × Int × Int)) × Int × Int × Int × Int × Int × Int × Unit) : T (Ex × Bool × (List (Int × Int × Int × Int)) × Int × Int × Int × Int × Int × Int × Unit) := T.ite (decide (x.2.2.2.2.2.2.2.1 ≥ 0)) (T.opt (lget x.2.1 x.2.2.2.2.2.2.2.1) fun y => T.opt (lget x.2.1 x.2.2.2.2.2.2.2.1) fun y_1 => T.ite (!(decide (x.2.2.1 ≥ y.1) && decide (x.2.2.1 < y.2.2.1) && decide (x.2.2.2.1 ≥ y.2.1) && decide (x.2.2.2.1 < y.2.2.2)) == (decide (y_1.fst ≤ x.2.2.1) && decide (x.2.2.1 < y_1.snd.snd.fst) && decide (y_1.snd.fst ≤ x.2.2.2.1) && decide (x.2.2.2.1 < y_1.snd.snd.snd))) (T.ret (Ex.ret, false, x.2.1, x.2.2.1, x.2.2.2.1, x.2.2.2.2.1, x.2.2.2.2.2.1, x.2.2.2.2.2.2.1, x.2.2.2.2.2.2.2.1, ())) (T.opt (lget x.2.1 x.2.2.2.2.2.2.2.1) fun y => T.ite (decide (y.1 ≤ x.2.2.1) && decide (x.2.2.1 < y.2.2.1) && decide (y.2.1 ≤ x.2.2.2.1) && decide (x.2.2.2.1 < y.2.2.2)) (T.ret (Ex.normal, x.1, x.2.1, x.2.2.1, x.2.2.2.1, x.2.2.2.2.1, x.2.2.2.2.2.1, x.2.2.2.2.2.2.2.1, W (x.2.2.2.2.2.2.2.1 - 1), ())) (T.ret (Ex.normal, x.1, x.2.1, x.2.2.1, x.2.2.2.1, x.2.2.2.2.1, x.2.2.2.2.2.1, x.2.2.2.2.2.2.1, W (x.2.2.2.2.2.2.2.1 - 1), ())))) (T.ret (Ex.exit 0, x.1, x.2.1, x.2.2.1, x.2.2.2.1, x.2.2.2.2.1, x.2.2.2.2.2.1, x.2.2.2.2.2.2.1, x.2.2.2.2.2.2.2.1, ()))
noncomputable def law37_SplitWhole.l0 (x : Bool × (List (Int × Int × Int × Int)) × Int × Int × Int × Int × Int × Int × Unit) : Option (Ex × Bool × (List (Int × Int × Int × Int)) × Int × Int × Int × Int × Int × Int × Unit) := (iterT law37_SplitWhole.t0 rounds x).run
theorem law37_SplitWhole.k0 : bodies 0 (lp Try.f9 []) = [.loop (loopIn 0 (lp Try.f9 []))] ∧ WP Try.prog 0 (.block 0 (.loop (loopIn 0 (lp Try.f9 [])))) (loopS law37_SplitWhole.L0 93 0 [.exit 0, .ret] law37_SplitWhole.l0) :=
  loop_tree (L := law37_SplitWhole.L0) (F := ({ quiet := (ext (ext (ext (ext (ext (ext (ext (ext noQ 39 split_Has.q) 40 ref37_Has.q) 34 law37_awake.q) 37 split_Whole.q) 36 ref37_Whole.q) 41 split_Of.q) 70 split_Bands_1.q) 72 split_Of_1.q), deep := noDeep } : Fns)) (D := D0) (tab := []) (t := law37_SplitWhole.t0) mixed (quiet_ext (quiet_ext (quiet_ext (quiet_ext (quiet_ext (quiet_ext (quiet_ext (quiet_ext (quiet_none _) split_Has.ok) ref37_Has.ok) law37_awake.ok) split_Whole.ok) ref37_Whole.ok) split_Of.ok) split_Bands_1.ok) split_Of_1.ok) (deep_none _) (fun _ => rfl) (by kernel_rfl) (by kernel_rfl) trivial (fun x => by kernel_rfl)
noncomputable def law37_SplitWhole.t (x : (Int × Int × (List (Int × Int × Int × Int)) × Int × Int)) : T (Bool) := T.ite (decide ((↑(List.length x.2.2.1) : Int) > 30)) (T.ite (decide (0 ≤ 0) && decide (0 ≤ 30) && decide (30 ≤ (↑(List.length x.2.2.1) : Int))) (T.opt (law37_SplitWhole.l0 (false, List.take (Int.toNat 30 - Int.toNat 0) (List.drop (Int.toNat 0) x.2.2.1), x.2.2.2.1, x.2.2.2.2, W (W (Int.tmod x.1 9) + 1), W (W (Int.tmod x.2.1 9) + 1), -1, W ((↑(List.take (Int.toNat 30 - Int.toNat 0) (List.drop (Int.toNat 0) x.2.2.1)).length : Int) - 1), ())) fun y => T.ite (exEq y.1 (Ex.exit 0)) (T.opt (law37_awake ()) fun y_1 => T.ite y_1 (T.opt (split_Whole (y.2.2.2.2.2.1, y.2.2.2.2.2.2.1, y.2.2.1)) fun y_2 => T.opt (ref37_Whole (y.2.2.2.2.2.1, y.2.2.2.2.2.2.1, y.2.2.1)) fun y_3 => T.ite (y_2 == y_3) (T.opt (split_Of (y.2.2.2.1, y.2.2.2.2.1, y.2.2.1)) fun y_4 => T.ite (y_4 == y.2.2.2.2.2.2.2.1) (T.opt (split_Whole (0, y.2.2.2.2.2.2.1, y.2.2.1)) fun y_5 => T.ite (!y_5) (T.opt (split_Whole (y.2.2.2.2.2.1, 8193, y.2.2.1)) fun y => T.ret !y) (T.ret false)) (T.ret false)) (T.ret false)) (T.ret false)) (T.ite (exEq y.1 Ex.ret) (T.ret y.2.1) T.fail)) T.fail) (T.opt (law37_SplitWhole.l0 (false, x.2.2.1, x.2.2.2.1, x.2.2.2.2, W (W (Int.tmod x.1 9) + 1), W (W (Int.tmod x.2.1 9) + 1), -1, W ((↑(List.length x.2.2.1) : Int) - 1), ())) fun y => T.ite (exEq y.1 (Ex.exit 0)) (T.opt (law37_awake ()) fun y_1 => T.ite y_1 (T.opt (split_Whole (y.2.2.2.2.2.1, y.2.2.2.2.2.2.1, y.2.2.1)) fun y_2 => T.opt (ref37_Whole (y.2.2.2.2.2.1, y.2.2.2.2.2.2.1, y.2.2.1)) fun y_3 => T.ite (y_2 == y_3) (T.opt (split_Of (y.2.2.2.1, y.2.2.2.2.1, y.2.2.1)) fun y_4 => T.ite (y_4 == y.2.2.2.2.2.2.2.1) (T.opt (split_Whole (0, y.2.2.2.2.2.2.1, y.2.2.1)) fun y_5 => T.ite (!y_5) (T.opt (split_Whole (y.2.2.2.2.2.1, 8193, y.2.2.1)) fun y => T.ret !y) (T.ret false)) (T.ret false)) (T.ret false)) (T.ret false)) (T.ite (exEq y.1 Ex.ret) (T.ret y.2.1) T.fail))
noncomputable def law37_SplitWhole (x : (Int × Int × (List (Int × Int × Int × Int)) × Int × Int)) : Option (Bool) := (law37_SplitWhole.t x).run
noncomputable def law37_SplitWhole.q : List AV → T AV := entry [(.st (.pair (.int .u8) (.pair (.int .u8) (.pair (.sl TRect) (.pair TI TI)))))] (outR [.bool]) fun x => .opt (law37_SplitWhole x) .ret
theorem law37_SplitWhole.ok : FnOK Try.prog 9 law37_SplitWhole.q :=
  entry_call (ps := [(.st (.pair (.int .u8) (.pair (.int .u8) (.pair (.sl TRect) (.pair TI TI)))))]) (rs := [.bool]) (F := ({ quiet := (ext (ext (ext (ext (ext (ext (ext (ext noQ 39 split_Has.q) 40 ref37_Has.q) 34 law37_awake.q) 37 split_Whole.q) 36 ref37_Whole.q) 41 split_Of.q) 70 split_Bands_1.q) 72 split_Of_1.q), deep := noDeep } : Fns)) (D := D0) (S := tabS [(0, loopS law37_SplitWhole.L0 93 0 [.exit 0, .ret] law37_SplitWhole.l0)]) (t := law37_SplitWhole.t) mixed (quiet_ext (quiet_ext (quiet_ext (quiet_ext (quiet_ext (quiet_ext (quiet_ext (quiet_ext (quiet_none _) split_Has.ok) ref37_Has.ok) law37_awake.ok) split_Whole.ok) ref37_Whole.ok) split_Of.ok) split_Bands_1.ok) split_Of_1.ok) (deep_none _) Try.func9 (by kernel_rfl) (sok_fn ⟨law37_SplitWhole.k0, trivial⟩) (by kernel_rfl) (fun x => by kernel_rfl)
end Go.Proofs.Pen

namespace Go.Proofs.Pen
open Go Go.Proofs
def law37_SplitMeets.L2 : List (Nat × Lay) := [(3, .box TRect), (11, .val TI), (12, .val TI), (13, .val TI)]
noncomputable def law37_SplitMeets.t2 (x : (Int × Int × Int × Int) × Int × Int × Int × Unit) : T (Ex × (Int × Int × Int × Int) × Int × Int × Int × Unit) := T.ite (decide (x.2.2.2.1 < x.1.2.2.2)) (T.ret (Ex.normal, x.1, W (x.2.1 + 1), x.2.2.1, W (x.2.2.2.1 + 1), ())) (T.ret (Ex.exit 2, x.1, x.2.1, x.2.2.1, x.2.2.2.1, ()))
noncomputable def law37_SplitMeets.l2 (x : (Int × Int × Int × Int) × Int × Int × Int × Unit) : Option (Ex × (Int × Int × Int × Int) × Int × Int × Int × Unit) := (iterT law37_SplitMeets.t2 rounds x).run
theorem law37_SplitMeets.k2 : bodies 2 (lp Try.f10 [0]) = [.loop (loopIn 2 (lp Try.f10 [0]))] ∧ WP Try.prog 0 (.block 2 (.loop (loopIn 2 (lp Try.f10 [0])))) (loopS law37_SplitMeets.L2 129 2 [.exit 2] law37_SplitMeets.l2) :=
  loop_tree (L := law37_SplitMeets.L2) (F := ({ quiet := (ext (ext (ext (ext (ext (ext noQ 42 split_Meet.q) 40 ref37_Has.q) 34 law37_awake.q) 43 split_Size.q) 70 split_Bands_1.q) 72 split_Of_1.q), deep := noDeep } : Fns)) (D := D0) (tab := []) (t := law37_SplitMeets.t2) mixed (quiet_ext (quiet_ext (quiet_ext (quiet_ext (quiet_ext (quiet_ext (quiet_none _) split_Meet.ok) ref37_Has.ok) law37_awake.ok) split_Size.ok) split_Bands_1.ok) split_Of_1.ok) (deep_none _) (fun _ => rfl) (by kernel_rfl) (by kernel_rfl) trivial (fun x => by kernel_rfl)
def law37_SplitMeets.L0 : List (Nat × Lay) := [(3, .box TRect), (11, .val TI), (12, .val TI)]
noncomputable def law37_SplitMeets.t0 (x : (Int × Int × Int × Int) × Int × Int × Unit) : T (Ex × (Int × Int × Int × Int) × Int × Int × Unit) := T.ite (decide (x.2.2.1 < x.1.2.2.1)) (T.opt (law37_SplitMeets.l2 (x.1, x.2.1, x.2.2.1, x.1.2.1, ())) fun y => T.ite (exEq y.1 (Ex.exit 2)) (T.ret (Ex.normal, y.2.1, y.2.2.1, W (y.2.2.2.1 + 1), ())) T.fail) (T.ret (Ex.exit 0, x.1, x.2.1, x.2.2.1, ()))
noncomputable def law37_SplitMeets.l0 (x : (Int × Int × Int × Int) × Int × Int × Unit) : Option (Ex × (Int × Int × Int × Int) × Int × Int × Unit) := (iterT law37_SplitMeets.t0 rounds x).run
theorem law37_SplitMeets.k0 : bodies 0 (lp Try.f10 []) = [.loop (loopIn 0 (lp Try.f10 []))] ∧ WP Try.prog 0 (.block 0 (.loop (loopIn 0 (lp Try.f10 [])))) (loopS law37_SplitMeets.L0 129 0 [.exit 0] law37_SplitMeets.l0) :=
  loop_tree (L := law37_SplitMeets.L0) (F := ({ quiet := (ext (ext (ext (ext (ext (ext noQ 42 split_Meet.q) 40 ref37_Has.q) 34 law37_awake.q) 43 split_Size.q) 70 split_Bands_1.q) 72 split_Of_1.q), deep := noDeep } : Fns)) (D := D0) (tab := [(2, loopS law37_SplitMeets.L2 129 2 [.exit 2] law37_SplitMeets.l2)]) (t := law37_SplitMeets.t0) mixed (quiet_ext (quiet_ext (quiet_ext (quiet_ext (quiet_ext (quiet_ext (quiet_none _) split_Meet.ok) ref37_Has.ok) law37_awake.ok) split_Size.ok) split_Bands_1.ok) split_Of_1.ok) (deep_none _) (fun _ => rfl) (by kernel_rfl) (by kernel_rfl) ⟨law37_SplitMeets.k2, trivial⟩ (fun x => by kernel_rfl)
noncomputable def law37_SplitMeets.t (x : ((Int × Int × Int × Int) × (Int × Int × Int × Int) × Int × Int)) : T (Bool) := T.opt (split_Meet (x.1, x.2.1)) fun y => T.ite (decide (x.1.1 ≤ x.2.2.1) && decide (x.2.2.1 < x.1.2.2.1) && decide (x.1.2.1 ≤ x.2.2.2) && decide (x.2.2.2 < x.1.2.2.2)) (T.ite (!(decide (x.2.1.1 ≤ x.2.2.1) && decide (x.2.2.1 < x.2.1.2.2.1) && decide (x.2.1.2.1 ≤ x.2.2.2) && decide (x.2.2.2 < x.2.1.2.2.2) && !y.2)) (T.ite y.2 (T.ite (!!(decide (y.1.1 ≤ x.2.2.1) && decide (x.2.2.1 < y.1.2.2.1) && decide (y.1.2.1 ≤ x.2.2.2) && decide (x.2.2.2 < y.1.2.2.2)) == (decide (x.2.1.1 ≤ x.2.2.1) && decide (x.2.2.1 < x.2.1.2.2.1) && decide (x.2.1.2.1 ≤ x.2.2.2) && decide (x.2.2.2 < x.2.1.2.2.2))) (T.ite (!y.2) (T.ite (!(y.1.1 == 0 && (y.1.2.1 == 0 && (y.1.2.2.1 == 0 && y.1.2.2.2 == 0)))) (T.ret false) (T.ite (!(decide (x.1.1 > -100) && decide (x.1.2.1 > -100) && decide (x.1.2.2.1 < 100) && decide (x.1.2.2.2 < 100) && decide (x.1.1 < 100) && decide (x.1.2.1 < 100) && decide (x.1.2.2.1 > -100) && decide (x.1.2.2.2 > -100))) (T.opt (law37_awake ()) fun y => T.ret y) (T.opt (law37_SplitMeets.l0 (x.1, 0, x.1.1, ())) fun y => T.ite (exEq y.1 (Ex.exit 0)) (T.opt (law37_awake ()) fun y_1 => T.ite y_1 (T.opt (split_Size y.2.1) fun y_2 => T.ret (y_2 == y.2.2.1)) (T.ret false)) T.fail))) (T.ite (!(decide (x.1.1 > -100) && decide (x.1.2.1 > -100) && decide (x.1.2.2.1 < 100) && decide (x.1.2.2.2 < 100) && decide (x.1.1 < 100) && decide (x.1.2.1 < 100) && decide (x.1.2.2.1 > -100) && decide (x.1.2.2.2 > -100))) (T.opt (law37_awake ()) fun y => T.ret y) (T.opt (law37_SplitMeets.l0 (x.1, 0, x.1.1, ())) fun y => T.ite (exEq y.1 (Ex.exit 0)) (T.opt (law37_awake ()) fun y_1 => T.ite y_1 (T.opt (split_Size y.2.1) fun y_2 => T.ret (y_2 == y.2.2.1)) (T.ret false)) T.fail))) (T.ret false)) (T.ite (!y.2) (T.ite (!(y.1.1 == 0 && (y.1.2.1 == 0 && (y.1.2.2.1 == 0 && y.1.2.2.2 == 0)))) (T.ret false) (T.ite (!(decide (x.1.1 > -100) && decide (x.1.2.1 > -100) && decide (x.1.2.2.1 < 100) && decide (x.1.2.2.2 < 100) && decide (x.1.1 < 100) && decide (x.1.2.1 < 100) && decide (x.1.2.2.1 > -100) && decide (x.1.2.2.2 > -100))) (T.opt (law37_awake ()) fun y => T.ret y) (T.opt (law37_SplitMeets.l0 (x.1, 0, x.1.1, ())) fun y => T.ite (exEq y.1 (Ex.exit 0)) (T.opt (law37_awake ()) fun y_1 => T.ite y_1 (T.opt (split_Size y.2.1) fun y_2 => T.ret (y_2 == y.2.2.1)) (T.ret false)) T.fail))) (T.ite (!(decide (x.1.1 > -100) && decide (x.1.2.1 > -100) && decide (x.1.2.2.1 < 100) && decide (x.1.2.2.2 < 100) && decide (x.1.1 < 100) && decide (x.1.2.1 < 100) && decide (x.1.2.2.1 > -100) && decide (x.1.2.2.2 > -100))) (T.opt (law37_awake ()) fun y => T.ret y) (T.opt (law37_SplitMeets.l0 (x.1, 0, x.1.1, ())) fun y => T.ite (exEq y.1 (Ex.exit 0)) (T.opt (law37_awake ()) fun y_1 => T.ite y_1 (T.opt (split_Size y.2.1) fun y_2 => T.ret (y_2 == y.2.2.1)) (T.ret false)) T.fail)))) (T.ret false)) (T.ite y.2 (T.ite (!!(decide (y.1.1 ≤ x.2.2.1) && decide (x.2.2.1 < y.1.2.2.1) && decide (y.1.2.1 ≤ x.2.2.2) && decide (x.2.2.2 < y.1.2.2.2)) == false) (T.ite (!y.2) (T.ite (!(y.1.1 == 0 && (y.1.2.1 == 0 && (y.1.2.2.1 == 0 && y.1.2.2.2 == 0)))) (T.ret false) (T.ite (!(decide (x.1.1 > -100) && decide (x.1.2.1 > -100) && decide (x.1.2.2.1 < 100) && decide (x.1.2.2.2 < 100) && decide (x.1.1 < 100) && decide (x.1.2.1 < 100) && decide (x.1.2.2.1 > -100) && decide (x.1.2.2.2 > -100))) (T.opt (law37_awake ()) fun y => T.ret y) (T.opt (law37_SplitMeets.l0 (x.1, 0, x.1.1, ())) fun y => T.ite (exEq y.1 (Ex.exit 0)) (T.opt (law37_awake ()) fun y_1 => T.ite y_1 (T.opt (split_Size y.2.1) fun y_2 => T.ret (y_2 == y.2.2.1)) (T.ret false)) T.fail))) (T.ite (!(decide (x.1.1 > -100) && decide (x.1.2.1 > -100) && decide (x.1.2.2.1 < 100) && decide (x.1.2.2.2 < 100) && decide (x.1.1 < 100) && decide (x.1.2.1 < 100) && decide (x.1.2.2.1 > -100) && decide (x.1.2.2.2 > -100))) (T.opt (law37_awake ()) fun y => T.ret y) (T.opt (law37_SplitMeets.l0 (x.1, 0, x.1.1, ())) fun y => T.ite (exEq y.1 (Ex.exit 0)) (T.opt (law37_awake ()) fun y_1 => T.ite y_1 (T.opt (split_Size y.2.1) fun y_2 => T.ret (y_2 == y.2.2.1)) (T.ret false)) T.fail))) (T.ret false)) (T.ite (!y.2) (T.ite (!(y.1.1 == 0 && (y.1.2.1 == 0 && (y.1.2.2.1 == 0 && y.1.2.2.2 == 0)))) (T.ret false) (T.ite (!(decide (x.1.1 > -100) && decide (x.1.2.1 > -100) && decide (x.1.2.2.1 < 100) && decide (x.1.2.2.2 < 100) && decide (x.1.1 < 100) && decide (x.1.2.1 < 100) && decide (x.1.2.2.1 > -100) && decide (x.1.2.2.2 > -100))) (T.opt (law37_awake ()) fun y => T.ret y) (T.opt (law37_SplitMeets.l0 (x.1, 0, x.1.1, ())) fun y => T.ite (exEq y.1 (Ex.exit 0)) (T.opt (law37_awake ()) fun y_1 => T.ite y_1 (T.opt (split_Size y.2.1) fun y_2 => T.ret (y_2 == y.2.2.1)) (T.ret false)) T.fail))) (T.ite (!(decide (x.1.1 > -100) && decide (x.1.2.1 > -100) && decide (x.1.2.2.1 < 100) && decide (x.1.2.2.2 < 100) && decide (x.1.1 < 100) && decide (x.1.2.1 < 100) && decide (x.1.2.2.1 > -100) && decide (x.1.2.2.2 > -100))) (T.opt (law37_awake ()) fun y => T.ret y) (T.opt (law37_SplitMeets.l0 (x.1, 0, x.1.1, ())) fun y => T.ite (exEq y.1 (Ex.exit 0)) (T.opt (law37_awake ()) fun y_1 => T.ite y_1 (T.opt (split_Size y.2.1) fun y_2 => T.ret (y_2 == y.2.2.1)) (T.ret false)) T.fail))))
noncomputable def law37_SplitMeets (x : ((Int × Int × Int × Int) × (Int × Int × Int × Int) × Int × Int)) : Option (Bool) := (law37_SplitMeets.t x).run
noncomputable def law37_SplitMeets.q : List AV → T AV := entry [(.st (.pair TRect (.pair TRect (.pair TI TI))))] (outR [.bool]) fun x => .opt (law37_SplitMeets x) .ret
theorem law37_SplitMeets.ok : FnOK Try.prog 10 law37_SplitMeets.q :=
  entry_call (ps := [(.st (.pair TRect (.pair TRect (.pair TI TI))))]) (rs := [.bool]) (F := ({ quiet := (ext (ext (ext (ext (ext (ext noQ 42 split_Meet.q) 40 ref37_Has.q) 34 law37_awake.q) 43 split_Size.q) 70 split_Bands_1.q) 72 split_Of_1.q), deep := noDeep } : Fns)) (D := D0) (S := tabS [(0, loopS law37_SplitMeets.L0 129 0 [.exit 0] law37_SplitMeets.l0)]) (t := law37_SplitMeets.t) mixed (quiet_ext (quiet_ext (quiet_ext (quiet_ext (quiet_ext (quiet_ext (quiet_none _) split_Meet.ok) ref37_Has.ok) law37_awake.ok) split_Size.ok) split_Bands_1.ok) split_Of_1.ok) (deep_none _) Try.func10 (by kernel_rfl) (sok_fn ⟨law37_SplitMeets.k0, trivial⟩) (by kernel_rfl) (fun x => by kernel_rfl)
end Go.Proofs.Pen

namespace Go.Proofs.Pen
open Go Go.Proofs

theorem awake37 : law37_awake () = some true := by kernel_rfl

theorem lget_nat {α : Type} (l : List α) (k : Nat) : lget l (k : Int) = l[k]? := by
  unfold lget
  rw [if_neg (by omega)]; rfl

theorem W_nat {n : Nat} (h : n ≤ 9223372036854775807) : W (n : Int) = n := W_id (by omega) (by omega)

def meet (r s : R4) : R4 := (if s.1 > r.1 then s.1 else r.1, if s.2.1 > r.2.1 then s.2.1 else r.2.1, if s.2.2.1 < r.2.2.1 then s.2.2.1 else r.2.2.1, if s.2.2.2 < r.2.2.2 then s.2.2.2 else r.2.2.2)

theorem Meet_eq (r s : R4) : split_Meet (r, s) = some (if meets r s then (meet r s, true) else ((0, 0, 0, 0), false)) := by
  unfold split_Meet split_Meet.t
  simp only [tr_ite, tr_ret, ← Bool.decide_or, decide_eq_true_eq]
  by_cases h : meets r s
  · rw [if_neg (by unfold meets at h; omega), if_pos h]; rfl
  · rw [if_pos (by unfold meets at h; omega), if_neg h]

theorem Meet_all {w h : Int} (r : R4) (_hw : 0 < w) (_hh : 0 < h) : (meets r (0, 0, w, h) ∧ meet r (0, 0, w, h) = r) ↔ fits w h r := by
  obtain ⟨a, b, c, d⟩ := r
  unfold meets meet fits
  simp only [Prod.mk.injEq]
  constructor
  · rintro ⟨h1, h2, h3, h4, h5⟩
    (repeat' split at h1) <;> (repeat' split at h2) <;> (repeat' split at h3) <;> (repeat' split at h4) <;> (repeat' split at h5) <;> omega
  · intro h1
    (repeat' split) <;> omega

theorem Size_eq {r : R4} (h : fits 8192 8192 r) : split_Size r = some (area r) := by
  unfold fits at h
  unfold split_Size split_Size.t
  rw [tr_ite, if_neg (by simp; omega), tr_ret]
  have h1 := mul_bd (x := r.2.2.1 - r.1) (y := r.2.2.2 - r.2.1) (a := 8192) (b := 8192) (by omega) (by omega) (by omega) (by omega)
  rw [W_id (n := r.2.2.1 - r.1) (by omega) (by omega), W_id (n := r.2.2.2 - r.2.1) (by omega) (by omega), W_id (by omega) (by omega)]
  rfl

def may (w h : Int) : Prop := 1 ≤ w ∧ 1 ≤ h ∧ w ≤ 8192 ∧ h ≤ 8192 ∧ w * h ≤ 65536
instance (w h : Int) : Decidable (may w h) := by unfold may; infer_instance

theorem w_mul {w h : Int} (h1 : 1 ≤ w) (h2 : 1 ≤ h) (h3 : w ≤ 8192) (h4 : h ≤ 8192) : W (w * h) = w * h ∧ 1 ≤ w * h ∧ w * h ≤ 67108864 := by
  have := mul_bd (x := w) (y := h) (a := 8192) (b := 8192) (by omega) (by omega) (by omega) (by omega)
  have h5 : 1 * 1 ≤ w * h := Int.mul_le_mul h1 h2 (by decide) (by omega)
  exact ⟨W_id (by omega) (by omega), by omega, by omega⟩

theorem may_eq (w h : Int) : (decide ((if h < w then h else w) ≥ 1) && decide ((if h > w then h else w) ≤ 8192) && decide (W (w * h) ≤ 65536)) = decide (may w h) := by
  rw [← Bool.decide_and, ← Bool.decide_and]
  apply decide_eq_decide.2
  unfold may
  by_cases hh : 1 ≤ w ∧ 1 ≤ h ∧ w ≤ 8192 ∧ h ≤ 8192
  · rw [(w_mul hh.1 hh.2.1 hh.2.2.1 hh.2.2.2).1]
    (repeat' split) <;> omega
  · constructor
    · intro h1
      (repeat' split at h1) <;> omega
    · intro h1; omega

theorem rmay_eq (w h : Int) : (decide (w ≥ 1) && decide (h ≥ 1) && decide (w ≤ 8192) && decide (h ≤ 8192) && decide (W (w * h) ≤ 65536)) = decide (may w h) := by
  simp only [← Bool.decide_and]
  apply decide_eq_decide.2
  unfold may
  by_cases hh : 1 ≤ w ∧ 1 ≤ h ∧ w ≤ 8192 ∧ h ≤ 8192
  · rw [(w_mul hh.1 hh.2.1 hh.2.2.1 hh.2.2.2).1]; omega
  · constructor <;> intro h1 <;> omega

/-! ### The reference -/
theorem R_l0 (w h : Int) (l : List R4) (b : Bool) (hl : l.length ≤ 4096) : ∃ e y, ref37_Whole.l0 (w, h, l, b, 0, ()) = some (e, y) ∧
    (((∀ r ∈ l, fits w h r) ∧ e = .exit 0 ∧ y = (w, h, l, b, (l.length : Int), ())) ∨ ((¬ ∀ r ∈ l, fits w h r) ∧ e = .ret ∧ y.2.2.2.1 = false)) := by
  refine iter_inv (fun x => ∃ k : Nat, x = (w, h, l, b, (k : Int), ()) ∧ k ≤ l.length ∧ ∀ j, j < k → ∀ r, l[j]? = some r → fits w h r) (fun x => l.length - x.2.2.2.2.1.toNat)
    (fun e y => ((∀ r ∈ l, fits w h r) ∧ e = .exit 0 ∧ y = (w, h, l, b, (l.length : Int), ())) ∨ ((¬ ∀ r ∈ l, fits w h r) ∧ e = .ret ∧ y.2.2.2.1 = false)) ?_ rounds _ ⟨0, rfl, Nat.zero_le _, fun j hj => by omega⟩ (rounds_gt (by dsimp only; omega))
  rintro x ⟨k, rfl, hk, hf⟩
  unfold ref37_Whole.t0
  by_cases hlt : k < l.length
  · have hg : l[k]? = some l[k] := List.getElem?_eq_getElem hlt
    simp only [tr_ite, tr_ret, tr_opt, lget_nat, hg, Option.bind_some]
    rw [if_pos (by simp; omega)]
    by_cases hfit : fits w h l[k]
    · rw [if_neg (by unfold fits at hfit; simp; omega)]
      have hw : W ((k : Int) + 1) = ((k + 1 : Nat) : Int) := by rw [W_id (by omega) (by omega)]; omega
      refine ⟨.normal, _, rfl, .inl ⟨rfl, ⟨k + 1, by rw [hw], hlt, fun j hj r hr => ?_⟩, ?_⟩⟩
      · rcases Nat.lt_or_ge j k with h1 | h1
        · exact hf j h1 r hr
        · have : j = k := by omega
          subst this; rw [hg] at hr; cases hr; exact hfit
      · dsimp only; rw [hw]; omega
    · rw [if_pos (by unfold fits at hfit; simp; omega)]
      exact ⟨.ret, _, rfl, .inr ⟨by simp, .inr ⟨fun ha => hfit (ha _ (List.getElem_mem hlt)), rfl, rfl⟩⟩⟩
  · simp only [tr_ite, tr_ret]
    rw [if_neg (by simp; omega)]
    have : k = l.length := by omega
    subst this
    refine ⟨.exit 0, _, rfl, .inr ⟨by simp, .inl ⟨fun r hr => ?_, rfl, rfl⟩⟩⟩
    obtain ⟨i, hi⟩ := List.getElem?_of_mem hr
    exact hf i (List.getElem?_eq_some_iff.1 hi).1 r hi

theorem tdiv_nat (p w : Nat) : (p : Int).tdiv (w : Int) = ((p / w : Nat) : Int) := Int.ofNat_tdiv .. |>.symm
theorem tmod_nat (p w : Nat) : (p : Int).tmod (w : Int) = ((p % w : Nat) : Int) := Int.ofNat_tmod .. |>.symm

theorem R_l4 {w h : Nat} (hw : 0 < w) (l : List R4) (b : Bool) (p : Nat) (hl : l.length ≤ 4096) (hp : p ≤ 65536) :
    ref37_Whole.l4 ((w : Int), (h : Int), l, b, (p : Int), 0, 0, ()) = some (.exit 4, (w : Int), (h : Int), l, b, (p : Int), ((l.countP fun r => hasP w r p : Nat) : Int), (l.length : Int), ()) := by
  have key := iter_inv (t := ref37_Whole.t4) (fun x => ∃ k : Nat, x = ((w : Int), (h : Int), l, b, (p : Int), (((l.take k).countP fun r => hasP w r p : Nat) : Int), (k : Int), ()) ∧ k ≤ l.length) (fun x => l.length - x.2.2.2.2.2.2.1.toNat)
    (fun e y => (e, y) = (.exit 4, (w : Int), (h : Int), l, b, (p : Int), ((l.countP fun r => hasP w r p : Nat) : Int), (l.length : Int), ())) ?_ rounds ((w : Int), (h : Int), l, b, (p : Int), 0, 0, ()) ⟨0, rfl, Nat.zero_le _⟩ (rounds_gt (by dsimp only; omega))
  · obtain ⟨e, y, h1, h2⟩ := key
    rw [← h2]; exact h1
  · rintro x ⟨k, rfl, hk⟩
    unfold ref37_Whole.t4
    by_cases hlt : k < l.length
    · have hg : l[k]? = some l[k] := List.getElem?_eq_getElem hlt
      have hdiv : p / w ≤ p := Nat.div_le_self _ _
      simp only [tr_ite, tr_ret, tr_opt, lget_nat, hg, Option.bind_some, tdiv_nat, tmod_nat]
      rw [if_pos (by simp; omega), if_neg (by simp; omega), if_neg (by simp; omega), W_nat (n := p / w) (Nat.le_trans hdiv (by omega))]
      have hw : W ((k : Int) + 1) = ((k + 1 : Nat) : Int) := by rw [W_id (by omega) (by omega)]; omega
      have hc := List.countP_le_length (p := fun r => hasP w r p) (l := l.take k)
      rw [List.length_take] at hc
      have hw2 : W ((((l.take k).countP fun r => hasP w r p : Nat) : Int) + 1) = (((l.take k).countP fun r => hasP w r p) + 1 : Nat) := by rw [W_id (by omega) (by omega)]; omega
      have htake : l.take (k + 1) = l.take k ++ [l[k]] := by rw [List.take_add_one, hg]; rfl
      have hcond : (decide (l[k].1 ≤ ((p % w : Nat) : Int)) && decide (((p % w : Nat) : Int) < l[k].2.2.1) && decide (l[k].2.1 ≤ ((p / w : Nat) : Int)) && decide (((p / w : Nat) : Int) < l[k].2.2.2)) = hasP w l[k] p := rfl
      rw [hcond]
      by_cases hh : hasP w l[k] p = true
      · rw [if_pos hh]
        refine ⟨.normal, _, rfl, .inl ⟨rfl, ⟨k + 1, ?_, hlt⟩, ?_⟩⟩
        · rw [hw, hw2, htake, List.countP_append, List.countP_singleton, if_pos hh]
        · dsimp only; rw [hw]; omega
      · rw [if_neg hh]
        refine ⟨.normal, _, rfl, .inl ⟨rfl, ⟨k + 1, ?_, hlt⟩, ?_⟩⟩
        · rw [hw, htake, List.countP_append, List.countP_singleton, if_neg hh]; rfl
        · dsimp only; rw [hw]; omega
    · simp only [tr_ite, tr_ret]
      rw [if_neg (by simp; omega)]
      have : k = l.length := by omega
      subst this
      exact ⟨.exit 4, _, rfl, .inr ⟨by simp, by rw [List.take_length]⟩⟩

theorem R_l2 {w h : Nat} (hm : may w h) (l : List R4) (b : Bool) (hl : l.length ≤ 4096) : ∃ e y, ref37_Whole.l2 ((w : Int), (h : Int), l, b, 0, ()) = some (e, y) ∧
    ((once w h l ∧ e = .exit 2) ∨ (¬ once w h l ∧ e = .ret ∧ y.2.2.2.1 = false)) := by
  have hm' := hm
  unfold may at hm'
  have hwh : ((w * h : Nat) : Int) = (w : Int) * h := by simp
  refine iter_inv (fun x => ∃ k : Nat, x = ((w : Int), (h : Int), l, b, (k : Int), ()) ∧ k ≤ w * h ∧ ∀ j, j < k → l.countP (fun r => hasP w r j) = 1) (fun x => w * h - x.2.2.2.2.1.toNat)
    (fun e y => (once w h l ∧ e = .exit 2) ∨ (¬ once w h l ∧ e = .ret ∧ y.2.2.2.1 = false)) ?_ rounds _ ⟨0, rfl, Nat.zero_le _, fun j hj => by omega⟩ (rounds_gt (by dsimp only; omega))
  rintro x ⟨k, rfl, hk, hf⟩
  unfold ref37_Whole.t2
  have hW := (w_mul hm'.1 hm'.2.1 hm'.2.2.1 hm'.2.2.2.1).1
  simp only [tr_ite, tr_ret, tr_opt, hW]
  by_cases hlt : k < w * h
  · rw [if_pos (by simp; omega), R_l4 (by omega) l b k hl (by omega), Option.bind_some]
    dsimp only
    rw [if_pos (by rfl)]
    have hw : W ((k : Int) + 1) = ((k + 1 : Nat) : Int) := by rw [W_id (by omega) (by omega)]; omega
    by_cases h1 : l.countP (fun r => hasP w r k) = 1
    · rw [if_neg (by rw [h1]; decide)]
      refine ⟨.normal, _, rfl, .inl ⟨rfl, ⟨k + 1, by rw [hw], hlt, fun j hj => ?_⟩, ?_⟩⟩
      · rcases Nat.lt_or_ge j k with h2 | h2
        · exact hf j h2
        · have : j = k := by omega
          subst this; exact h1
      · dsimp only; rw [hw]; omega
    · rw [if_pos (by simp; omega)]
      exact ⟨.ret, _, rfl, .inr ⟨by simp, .inr ⟨fun ho => h1 (ho k hlt), rfl, rfl⟩⟩⟩
  · rw [if_neg (by simp; omega)]
    exact ⟨.exit 2, _, rfl, .inr ⟨by simp, .inl ⟨fun p hp => hf p (by omega), rfl⟩⟩⟩

open Classical in
theorem RWhole_eq {w h : Nat} (hm : may w h) (l : List R4) (hl : l.length ≤ 4096) : ref37_Whole ((w : Int), (h : Int), l) = some (decide ((∀ r ∈ l, fits w h r) ∧ once w h l)) := by
  obtain ⟨e, y, h1, h2⟩ := R_l0 w h l false hl
  unfold ref37_Whole ref37_Whole.t
  simp only [tr_ite, tr_ret, tr_opt, h1, Option.bind_some]
  rcases h2 with ⟨ha, rfl, rfl⟩ | ⟨ha, rfl, hy⟩
  · obtain ⟨e, y, h3, h4⟩ := R_l2 hm l false hl
    rw [if_pos (by rfl)]
    dsimp only
    rw [h3, Option.bind_some]
    rcases h4 with ⟨ho, rfl⟩ | ⟨ho, rfl, hy⟩
    · rw [if_pos (by rfl)]; exact congrArg some (decide_eq_true ⟨ha, ho⟩).symm
    · rw [if_neg (by simp [exEq]), if_pos (by rfl), hy]; exact congrArg some (decide_eq_false fun hh => ho hh.2).symm
  · rw [if_neg (by simp [exEq]), if_pos (by rfl), hy]; simp only [ha, false_and, decide_false]


/-! ### The program -/
theorem S_l2 (l : List R4) (b : Bool) (al : R4) (sum : Int) (r : R4) (l' : List R4) (n i : Int) (L : List R4) (hl : L.length ≤ 4096) :
    ∃ e y, split_Whole.l2 (l, b, al, sum, r, l', n, i, L, (L.length : Int), 0, ()) = some (e, y) ∧
    (((∀ s ∈ L, ¬ meets r s) ∧ e = .exit 2 ∧ y = (l, b, al, sum, r, l', n, i, L, (L.length : Int), (L.length : Int), ())) ∨ ((¬ ∀ s ∈ L, ¬ meets r s) ∧ e = .ret ∧ y.2.1 = false)) := by
  refine iter_inv (fun x => ∃ k : Nat, x = (l, b, al, sum, r, l', n, i, L, (L.length : Int), (k : Int), ()) ∧ k ≤ L.length ∧ ∀ j, j < k → ∀ s, L[j]? = some s → ¬ meets r s) (fun x => L.length - x.2.2.2.2.2.2.2.2.2.2.1.toNat)
    (fun e y => ((∀ s ∈ L, ¬ meets r s) ∧ e = .exit 2 ∧ y = (l, b, al, sum, r, l', n, i, L, (L.length : Int), (L.length : Int), ())) ∨ ((¬ ∀ s ∈ L, ¬ meets r s) ∧ e = .ret ∧ y.2.1 = false)) ?_ rounds _ ⟨0, rfl, Nat.zero_le _, fun j hj => by omega⟩ (rounds_gt (by dsimp only; omega))
  rintro x ⟨k, rfl, hk, hf⟩
  unfold split_Whole.t2
  by_cases hlt : k < L.length
  · have hg : L[k]? = some L[k] := List.getElem?_eq_getElem hlt
    simp only [tr_ite, tr_ret, tr_opt, lget_nat, hg, Option.bind_some, Meet_eq]
    rw [if_pos (by simp; omega)]
    by_cases hm : meets r L[k]
    · simp only [hm, if_true]
      exact ⟨.ret, _, rfl, .inr ⟨by simp, .inr ⟨fun ha => ha _ (List.getElem_mem hlt) hm, rfl, rfl⟩⟩⟩
    · simp only [hm, if_false, Bool.false_eq_true]
      have hw : W ((k : Int) + 1) = ((k + 1 : Nat) : Int) := by rw [W_id (by omega) (by omega)]; omega
      refine ⟨.normal, _, rfl, .inl ⟨rfl, ⟨k + 1, by rw [hw], hlt, fun j hj s hs => ?_⟩, ?_⟩⟩
      · rcases Nat.lt_or_ge j k with h1 | h1
        · exact hf j h1 s hs
        · have : j = k := by omega
          subst this; rw [hg] at hs; cases hs; exact hm
      · dsimp only; rw [hw]; omega
  · simp only [tr_ite, tr_ret]
    rw [if_neg (by simp; omega)]
    have : k = L.length := by omega
    subst this
    refine ⟨.exit 2, _, rfl, .inr ⟨by simp, .inl ⟨fun s hs => ?_, rfl, rfl⟩⟩⟩
    obtain ⟨j, hj⟩ := List.getElem?_of_mem hs
    exact hf j (List.getElem?_eq_some_iff.1 hj).1 s hj

theorem area_bd {w h : Int} {r : R4} (hw : w ≤ 8192) (hh : h ≤ 8192) (hf : fits w h r) : 0 ≤ area r ∧ area r ≤ 67108864 := by
  unfold fits at hf
  have h1 := mul_bd (x := r.2.2.1 - r.1) (y := r.2.2.2 - r.2.1) (a := 8192) (b := 8192) (by omega) (by omega) (by omega) (by omega)
  have h2 : 0 ≤ (r.2.2.1 - r.1) * (r.2.2.2 - r.2.1) := Int.mul_nonneg (by omega) (by omega)
  unfold area; omega

theorem sum_bd {w h : Int} (hw : w ≤ 8192) (hh : h ≤ 8192) : ∀ {l : List R4}, (∀ r ∈ l, fits w h r) → 0 ≤ (l.map area).sum ∧ (l.map area).sum ≤ 67108864 * l.length
  | [], _ => by simp
  | r :: l, hf => by
    have h1 := sum_bd hw hh (l := l) fun r hr => hf r (by simp [hr])
    have h2 := area_bd hw hh (hf r (by simp))
    simp only [List.map_cons, List.sum_cons, List.length_cons]
    omega

theorem apart_snoc {l : List R4} {r : R4} : apart (l ++ [r]) ↔ apart l ∧ ∀ s ∈ l, ¬ meets r s := by
  unfold apart
  rw [List.pairwise_append]
  simp

theorem S_l0 {w h : Int} (hm : may w h) (l : List R4) (hl : l.length ≤ 4096) : ∃ e y, split_Whole.l0 (l, false, (0, 0, w, h), 0, l, (l.length : Int), 0, ()) = some (e, y) ∧
    ((((∀ r ∈ l, fits w h r) ∧ apart l) ∧ e = .exit 0 ∧ y = (l, false, (0, 0, w, h), (l.map area).sum, l, (l.length : Int), (l.length : Int), ())) ∨ ((¬ ((∀ r ∈ l, fits w h r) ∧ apart l)) ∧ e = .ret ∧ y.2.1 = false)) := by
  have hm' := hm
  unfold may at hm'
  refine iter_inv (fun x => ∃ k : Nat, x = (l, false, (0, 0, w, h), ((l.take k).map area).sum, l, (l.length : Int), (k : Int), ()) ∧ k ≤ l.length ∧ (∀ r ∈ l.take k, fits w h r) ∧ apart (l.take k)) (fun x => l.length - x.2.2.2.2.2.2.1.toNat)
    (fun e y => (((∀ r ∈ l, fits w h r) ∧ apart l) ∧ e = .exit 0 ∧ y = (l, false, (0, 0, w, h), (l.map area).sum, l, (l.length : Int), (l.length : Int), ())) ∨ ((¬ ((∀ r ∈ l, fits w h r) ∧ apart l)) ∧ e = .ret ∧ y.2.1 = false)) ?_ rounds _
    ⟨0, by simp, Nat.zero_le _, by simp, by simp [apart]⟩ (rounds_gt (by dsimp only; omega))
  rintro x ⟨k, rfl, hk, hf, ha⟩
  unfold split_Whole.t0
  by_cases hlt : k < l.length
  · have hg : l[k]? = some l[k] := List.getElem?_eq_getElem hlt
    have htake : l.take (k + 1) = l.take k ++ [l[k]] := by rw [List.take_add_one, hg]; rfl
    simp only [tr_ite, tr_ret, tr_opt, lget_nat, hg, Option.bind_some, Meet_eq]
    rw [if_pos (by simp; omega)]
    have hall := Meet_all l[k] (show 0 < w by omega) (show 0 < h by omega)
    by_cases hfit : fits w h l[k]
    · obtain ⟨m1, m2⟩ := hall.2 hfit
      rw [if_pos m1, m2]
      rw [if_neg (by simp), if_pos (by simp; omega)]
      have hdrop : List.take (Int.toNat (k : Int) - Int.toNat 0) (List.drop (Int.toNat 0) l) = l.take k := rfl
      rw [hdrop]
      obtain ⟨e, y, h1, h2⟩ := S_l2 l false (0, 0, w, h) ((l.take k).map area).sum l[k] l (l.length : Int) (k : Int) (l.take k) (by rw [List.length_take]; omega)
      rw [h1, Option.bind_some]
      rcases h2 with ⟨hap, rfl, rfl⟩ | ⟨hap, rfl, hy⟩
      · rw [if_pos (by rfl)]
        dsimp only
        have h8 : fits 8192 8192 l[k] := by unfold fits at hfit ⊢; omega
        rw [Size_eq h8, Option.bind_some]
        have hb := sum_bd (w := w) (h := h) (by omega) (by omega) hf
        have hb2 := area_bd (w := w) (h := h) (by omega) (by omega) hfit
        rw [List.length_take, Nat.min_eq_left hk] at hb
        have hw : W ((k : Int) + 1) = ((k + 1 : Nat) : Int) := by rw [W_id (by omega) (by omega)]; omega
        refine ⟨.normal, _, rfl, .inl ⟨rfl, ⟨k + 1, ?_, hlt, ?_, ?_⟩, ?_⟩⟩
        · rw [hw, W_id (by omega) (by omega), htake, List.map_append, List.sum_append]; simp
        · rw [htake]; intro r hr
          rw [List.mem_append] at hr
          rcases hr with hr | hr
          · exact hf r hr
          · simp at hr; subst hr; exact hfit
        · rw [htake]; exact apart_snoc.2 ⟨ha, hap⟩
        · dsimp only; rw [hw]; omega
      · rw [if_neg (by simp [exEq]), if_pos (by rfl)]
        refine ⟨.ret, _, rfl, .inr ⟨by simp, .inr ⟨fun hh => hap ?_, rfl, hy⟩⟩⟩
        have : apart (l.take (k + 1)) := List.Pairwise.sublist (List.take_sublist _ _) hh.2
        rw [htake] at this
        exact (apart_snoc.1 this).2
    · have hno : ¬ (meets l[k] (0, 0, w, h) ∧ meet l[k] (0, 0, w, h) = l[k]) := fun hh => hfit (hall.1 hh)
      rw [if_pos]
      · exact ⟨.ret, _, rfl, .inr ⟨by simp, .inr ⟨fun hh => hfit (hh.1 _ (List.getElem_mem hlt)), rfl, rfl⟩⟩⟩
      · by_cases m1 : meets l[k] (0, 0, w, h)
        · have m2 : meet l[k] (0, 0, w, h) ≠ l[k] := fun e => hno ⟨m1, e⟩
          rw [if_pos m1]
          simp only [Bool.not_true, Bool.false_or, Bool.not_eq_true', Bool.and_eq_false_iff, beq_eq_false_iff_ne, ne_eq]
          apply Classical.byContradiction
          intro hc
          simp only [not_or, Classical.not_not] at hc
          exact m2 (by ext <;> simp [hc])
        · rw [if_neg m1]; simp
  · simp only [tr_ite, tr_ret]
    rw [if_neg (by simp; omega)]
    have : k = l.length := by omega
    subst this
    rw [List.take_length] at hf ha
    exact ⟨.exit 0, _, rfl, .inr ⟨by simp, .inl ⟨⟨hf, ha⟩, rfl, by rw [List.take_length]⟩⟩⟩

open Classical in
theorem SWhole_eq (w h : Int) (l : List R4) : split_Whole (w, h, l) = some (decide (may w h ∧ l.length ≤ 4096 ∧ (∀ r ∈ l, fits w h r) ∧ apart l ∧ (l.map area).sum = w * h)) := by
  unfold split_Whole split_Whole.t
  simp only [tr_ite, tr_ret, tr_opt, may_eq]
  by_cases hm : may w h
  · by_cases hl : l.length ≤ 4096
    · rw [if_neg (by simp [hm]; omega)]
      obtain ⟨e, y, h1, h2⟩ := S_l0 hm l hl
      rw [h1, Option.bind_some]
      have hm' := hm
      unfold may at hm'
      rcases h2 with ⟨⟨hf, ha⟩, rfl, rfl⟩ | ⟨hf, rfl, hy⟩
      · rw [if_pos (by rfl)]
        dsimp only
        rw [Size_eq (r := (0, 0, w, h)) (by unfold fits; dsimp only; omega), Option.bind_some]
        refine congrArg some ?_
        rw [Bool.eq_iff_iff, beq_iff_eq, decide_eq_true_iff]
        have e : area (0, 0, w, h) = w * h := by unfold area; simp
        rw [e]
        exact ⟨fun h => ⟨hm, hl, hf, ha, h⟩, fun h => h.2.2.2.2⟩
      · rw [if_neg (by simp [exEq]), if_pos (by rfl), hy]
        exact congrArg some (decide_eq_false fun hh => hf ⟨hh.2.2.1, hh.2.2.2.1⟩).symm
    · rw [if_pos (by simp; omega)]
      exact congrArg some (decide_eq_false fun hh => hl hh.2.1).symm
  · rw [if_pos (by simp [hm])]
    exact congrArg some (decide_eq_false fun hh => hm hh.1).symm

open Classical in
/-- Both tell the same. -/
theorem whole_same {w h : Nat} (hm : may w h) (l : List R4) (hl : l.length ≤ 4096) : split_Whole ((w : Int), (h : Int), l) = ref37_Whole ((w : Int), (h : Int), l) := by
  rw [SWhole_eq, RWhole_eq hm l hl]
  refine congrArg some ?_
  rw [Bool.eq_iff_iff, decide_eq_true_iff, decide_eq_true_iff]
  constructor
  · rintro ⟨_, _, h1, h2, h3⟩; exact ⟨h1, (once_iff h1).2 ⟨h2, h3⟩⟩
  · rintro ⟨h1, h2⟩; obtain ⟨h3, h4⟩ := (once_iff h1).1 h2; exact ⟨hm, hl, h1, h3, h4⟩

end Go.Proofs.Pen

namespace Go.Proofs.Pen
open Go Go.Proofs

theorem has_def (r : R4) (x y : Int) : has r x y = (decide (r.1 ≤ x) && decide (x < r.2.2.1) && decide (r.2.1 ≤ y) && decide (y < r.2.2.2)) := rfl

/-! ### Which part has a pixel -/
def fiK (l : List R4) (x y : Int) (k : Nat) : Int := match (l.drop k).findIdx? fun r => has r x y with
  | some j => (k + j : Nat)
  | none => -1

theorem fiK_step {l : List R4} {x y : Int} {k : Nat} (hk : k < l.length) : fiK l x y k = if has l[k] x y = true then (k : Int) else fiK l x y (k + 1) := by
  unfold fiK
  rw [List.drop_eq_getElem_cons hk, List.findIdx?_cons]
  by_cases h : has l[k] x y = true
  · simp [h]
  · simp only [h, if_false, Bool.false_eq_true]
    cases (l.drop (k + 1)).findIdx? fun r => has r x y with
    | none => rfl
    | some j => simp; omega

theorem fiK_end {l : List R4} {x y : Int} : fiK l x y l.length = -1 := by
  unfold fiK; simp

theorem Of_l0 (l : List R4) (x y : Int) (hl : l.length ≤ 1000000) : ∃ e z, IndexFunc_Of.l0 (l, (x, y), 0, (l.length : Int), 0, ()) = some (e, z) ∧
    ((e = .exit 0 ∧ fiK l x y 0 = -1) ∨ (e = .ret ∧ fiK l x y 0 = z.2.2.1)) := by
  refine iter_inv (fun z => ∃ k : Nat, z = (l, (x, y), 0, (l.length : Int), (k : Int), ()) ∧ k ≤ l.length ∧ fiK l x y 0 = fiK l x y k) (fun z => l.length - z.2.2.2.2.1.toNat)
    (fun e z => (e = .exit 0 ∧ fiK l x y 0 = -1) ∨ (e = .ret ∧ fiK l x y 0 = z.2.2.1)) ?_ rounds _ ⟨0, rfl, Nat.zero_le _, rfl⟩ (rounds_gt (by dsimp only; omega))
  rintro z ⟨k, rfl, hk, hf⟩
  unfold IndexFunc_Of.t0
  by_cases hlt : k < l.length
  · have hg : l[k]? = some l[k] := List.getElem?_eq_getElem hlt
    simp only [tr_ite, tr_ret, tr_opt, lget_nat, hg, Option.bind_some]
    rw [if_pos (by simp; omega)]
    have hc : (decide (x ≥ l[k].1) && decide (x < l[k].2.2.1) && decide (y ≥ l[k].2.1) && decide (y < l[k].2.2.2)) = has l[k] x y := rfl
    rw [hc]
    rw [fiK_step hlt] at hf
    by_cases hh : has l[k] x y = true
    · rw [if_pos hh]
      rw [if_pos hh] at hf
      exact ⟨.ret, _, rfl, .inr ⟨by simp, .inr ⟨rfl, hf⟩⟩⟩
    · rw [if_neg hh]
      rw [if_neg hh] at hf
      have hw : W ((k : Int) + 1) = ((k + 1 : Nat) : Int) := by rw [W_id (by omega) (by omega)]; omega
      exact ⟨.normal, _, rfl, .inl ⟨rfl, ⟨k + 1, by rw [hw], hlt, hf⟩, by dsimp only; rw [hw]; omega⟩⟩
  · simp only [tr_ite, tr_ret]
    rw [if_neg (by simp; omega)]
    have : k = l.length := by omega
    subst this
    rw [fiK_end] at hf
    exact ⟨.exit 0, _, rfl, .inr ⟨by simp, .inl ⟨rfl, hf⟩⟩⟩

theorem Of_eq (l : List R4) (x y : Int) (hl : l.length ≤ 1000000) : split_Of (x, y, l) = some (fiK l x y 0) := by
  obtain ⟨e, z, h1, h2⟩ := Of_l0 l x y hl
  unfold split_Of split_Of.t IndexFunc_Of IndexFunc_Of.t
  simp only [tr_ite, tr_ret, tr_opt, h1, Option.bind_some]
  rcases h2 with ⟨rfl, h2⟩ | ⟨rfl, h2⟩
  · rw [if_pos (by rfl), h2]; rfl
  · rw [if_neg (by simp [exEq]), if_pos (by rfl), h2]; rfl

theorem SW_l0 (l : List R4) (x y a b : Int) (hl : l.length ≤ 1000000) : law37_SplitWhole.l0 (false, l, x, y, a, b, -1, W ((l.length : Int) - 1), ()) = some (.exit 0, false, l, x, y, a, b, fiK l x y 0, -1, ()) := by
  have key := iter_inv (t := law37_SplitWhole.t0) (fun z => ∃ k : Nat, z = (false, l, x, y, a, b, fiK l x y k, (k : Int) - 1, ()) ∧ k ≤ l.length) (fun z => (z.2.2.2.2.2.2.2.1 + 1).toNat)
    (fun e z => (e, z) = (.exit 0, false, l, x, y, a, b, fiK l x y 0, -1, ())) ?_ rounds (false, l, x, y, a, b, -1, W ((l.length : Int) - 1), ()) ⟨l.length, by rw [fiK_end, W_id (by omega) (by omega)], Nat.le_refl _⟩ (rounds_gt (by dsimp only; rw [W_id (by omega) (by omega)]; omega))
  · obtain ⟨e, z, h1, h2⟩ := key
    rw [← h2]; exact h1
  · rintro z ⟨k, rfl, hk⟩
    unfold law37_SplitWhole.t0
    cases k with
    | zero =>
      simp only [tr_ite, tr_ret]
      rw [if_neg (by simp)]
      exact ⟨.exit 0, _, rfl, .inr ⟨by simp, by simp⟩⟩
    | succ k =>
      have e0 : ((k + 1 : Nat) : Int) - 1 = k := by omega
      have hlt : k < l.length := hk
      have hg : l[k]? = some l[k] := List.getElem?_eq_getElem hlt
      simp only [e0, tr_ite, tr_ret, tr_opt, lget_nat, hg, Option.bind_some]
      rw [if_pos (by simp)]
      have hc : (decide (x ≥ l[k].1) && decide (x < l[k].2.2.1) && decide (y ≥ l[k].2.1) && decide (y < l[k].2.2.2)) = has l[k] x y := rfl
      rw [hc, if_neg (by simp)]
      have hw : W ((k : Int) - 1) = (k : Int) - 1 := by rw [W_id (by omega) (by omega)]
      have hs := fiK_step (x := x) (y := y) hlt
      by_cases hh : has l[k] x y = true
      · rw [if_pos hh] at hs ⊢
        exact ⟨.normal, _, rfl, .inl ⟨rfl, ⟨k, by rw [hw, hs], by omega⟩, by dsimp only; rw [hw]; omega⟩⟩
      · rw [if_neg hh] at hs ⊢
        exact ⟨.normal, _, rfl, .inl ⟨rfl, ⟨k, by rw [hw, hs], by omega⟩, by dsimp only; rw [hw]; omega⟩⟩

theorem side9 {x : Int} (h1 : 0 ≤ x) : ∃ n : Nat, W (W (Int.tmod x 9) + 1) = n ∧ 1 ≤ n ∧ n ≤ 9 := by
  have h := tdv x (k := 9) (by decide)
  rw [W_id (n := x.tmod 9) (by omega) (by omega), W_id (by omega) (by omega)]
  exact ⟨(x.tmod 9 + 1).toNat, by omega, by omega, by omega⟩

open Classical in
theorem SplitWhole_law (w h : Int) (l : List R4) (x y : Int) (hw : 0 ≤ w) (hh : 0 ≤ h) : (law37_SplitWhole.t (w, h, l, x, y)).run = some true := by
  obtain ⟨a, ha, ha1, ha2⟩ := side9 hw
  obtain ⟨b, hb, hb1, hb2⟩ := side9 hh
  have hm : may (a : Int) (b : Int) := by
    unfold may
    have := mul_bd (x := a) (y := b) (a := 9) (b := 9) (by omega) (by omega) (by omega) (by omega)
    omega
  have n1 : ∀ L : List R4, split_Whole (0, (b : Int), L) = some false := fun L => by
    rw [SWhole_eq]; exact congrArg some (decide_eq_false fun h => by have := h.1; unfold may at this; omega)
  have n2 : ∀ L : List R4, split_Whole ((a : Int), 8193, L) = some false := fun L => by
    rw [SWhole_eq]; exact congrArg some (decide_eq_false fun h => by have := h.1; unfold may at this; omega)
  have tail : ∀ L : List R4, L.length ≤ 30 → ∃ v, split_Whole ((a : Int), (b : Int), L) = some v ∧ ref37_Whole ((a : Int), (b : Int), L) = some v := fun L hL => by
    rw [whole_same hm L (by omega), RWhole_eq hm L (by omega)]
    exact ⟨_, rfl, rfl⟩
  unfold law37_SplitWhole.t
  simp only [tr_ite, tr_ret, tr_opt, ha, hb]
  by_cases hl : (l.length : Int) > 30
  · rw [if_pos (by simpa using hl), if_pos (by simp; omega)]
    have hd : List.take (Int.toNat 30 - Int.toNat 0) (List.drop (Int.toNat 0) l) = l.take 30 := rfl
    have hlen : (l.take 30).length ≤ 30 := by rw [List.length_take]; omega
    obtain ⟨v, h1, h2⟩ := tail _ hlen
    rw [hd, SW_l0 _ _ _ _ _ (by omega)]
    simp only [Option.bind_some, awake37, h1, h2, Of_eq _ _ _ (show (l.take 30).length ≤ 1000000 by omega), n1, n2]
    simp [exEq]
  · rw [if_neg (by simpa using hl)]
    obtain ⟨v, h1, h2⟩ := tail l (by omega)
    rw [SW_l0 _ _ _ _ _ (by omega)]
    simp only [Option.bind_some, awake37, h1, h2, Of_eq l _ _ (by omega), n1, n2]
    simp [exEq]

/-! ### Meets -/
theorem SM_l2 (r : R4) (n i : Int) (hr : -100 < r.2.1 ∧ r.2.1 < 100 ∧ -100 < r.2.2.2 ∧ r.2.2.2 < 100) (hn : 0 ≤ n ∧ n ≤ 100000) :
    ∃ z, law37_SplitMeets.l2 (r, n, i, r.2.1, ()) = some (.exit 2, r, n + (r.2.2.2 - r.2.1).toNat, i, z, ()) := by
  have key := iter_inv (t := law37_SplitMeets.t2) (fun z => ∃ k : Nat, z = (r, n + k, i, r.2.1 + k, ()) ∧ (k : Int) ≤ (r.2.2.2 - r.2.1).toNat) (fun z => (r.2.2.2 - z.2.2.2.1).toNat)
    (fun e z => e = .exit 2 ∧ ∃ t, z = (r, n + (r.2.2.2 - r.2.1).toNat, i, t, ())) ?_ rounds (r, n, i, r.2.1, ()) ⟨0, by simp, by omega⟩ (rounds_gt (by dsimp only; omega))
  · obtain ⟨e, z, h1, rfl, t, rfl⟩ := key
    exact ⟨t, h1⟩
  · rintro z ⟨k, rfl, hk⟩
    unfold law37_SplitMeets.t2
    simp only [tr_ite, tr_ret]
    by_cases hlt : r.2.1 + k < r.2.2.2
    · rw [if_pos (by simpa using hlt), W_id (by omega) (by omega), W_id (by omega) (by omega)]
      exact ⟨.normal, _, rfl, .inl ⟨rfl, ⟨k + 1, by rw [Int.natCast_add]; simp only [Int.add_assoc]; rfl, by omega⟩, by dsimp only; omega⟩⟩
    · rw [if_neg (by simpa using hlt)]
      refine ⟨.exit 2, _, rfl, .inr ⟨by simp, rfl, r.2.1 + k, ?_⟩⟩
      have : (k : Int) = (r.2.2.2 - r.2.1).toNat := by omega
      rw [this]

theorem SM_l0 (r : R4) (hx : -100 < r.1 ∧ r.1 < 100 ∧ -100 < r.2.2.1 ∧ r.2.2.1 < 100) (hr : -100 < r.2.1 ∧ r.2.1 < 100 ∧ -100 < r.2.2.2 ∧ r.2.2.2 < 100) :
    ∃ z, law37_SplitMeets.l0 (r, 0, r.1, ()) = some (.exit 0, r, ((r.2.2.1 - r.1).toNat : Int) * (r.2.2.2 - r.2.1).toNat, z, ()) := by
  have key := iter_inv (t := law37_SplitMeets.t0) (fun z => ∃ k : Nat, z = (r, (k : Int) * (r.2.2.2 - r.2.1).toNat, r.1 + k, ()) ∧ (k : Int) ≤ (r.2.2.1 - r.1).toNat) (fun z => (r.2.2.1 - z.2.2.1).toNat)
    (fun e z => e = .exit 0 ∧ ∃ t, z = (r, ((r.2.2.1 - r.1).toNat : Int) * (r.2.2.2 - r.2.1).toNat, t, ())) ?_ rounds (r, 0, r.1, ()) ⟨0, by simp, by omega⟩ (rounds_gt (by dsimp only; omega))
  · obtain ⟨e, z, h1, rfl, t, rfl⟩ := key
    exact ⟨t, h1⟩
  · rintro z ⟨k, rfl, hk⟩
    unfold law37_SplitMeets.t0
    simp only [tr_ite, tr_ret, tr_opt]
    by_cases hlt : r.1 + k < r.2.2.1
    · have hb := mul_bd (x := k) (y := ((r.2.2.2 - r.2.1).toNat : Int)) (a := 200) (b := 200) (by omega) (by omega) (by omega) (by omega)
      have hn : 0 ≤ (k : Int) * (r.2.2.2 - r.2.1).toNat := Int.mul_nonneg (by omega) (by omega)
      obtain ⟨z, hz⟩ := SM_l2 r ((k : Int) * (r.2.2.2 - r.2.1).toNat) (r.1 + k) hr ⟨hn, by omega⟩
      rw [if_pos (by simpa using hlt), hz, Option.bind_some, if_pos (by rfl)]
      dsimp only
      rw [W_id (by omega) (by omega)]
      refine ⟨.normal, _, rfl, .inl ⟨rfl, ⟨k + 1, ?_, by omega⟩, by dsimp only; omega⟩⟩
      rw [Int.natCast_add, Int.add_mul]; simp only [Int.add_assoc]; simp
    · rw [if_neg (by simpa using hlt)]
      refine ⟨.exit 0, _, rfl, .inr ⟨by simp, rfl, r.1 + k, ?_⟩⟩
      have : (k : Int) = (r.2.2.1 - r.1).toNat := by omega
      rw [this]

theorem Size_small (r : R4) (hx : -100 < r.1 ∧ r.1 < 100 ∧ -100 < r.2.2.1 ∧ r.2.2.1 < 100) (hr : -100 < r.2.1 ∧ r.2.1 < 100 ∧ -100 < r.2.2.2 ∧ r.2.2.2 < 100) :
    split_Size r = some (((r.2.2.1 - r.1).toNat : Int) * (r.2.2.2 - r.2.1).toNat) := by
  unfold split_Size split_Size.t
  simp only [tr_ite, tr_ret]
  by_cases h : r.2.2.1 ≤ r.1 ∨ r.2.2.2 ≤ r.2.1
  · rw [if_pos (by simpa using h)]
    rcases h with h | h
    · rw [Int.toNat_of_nonpos (by omega)]; simp
    · rw [Int.toNat_of_nonpos (z := r.2.2.2 - r.2.1) (by omega)]; simp
  · rw [if_neg (by simpa using h)]
    have h1 := mul_bd (x := r.2.2.1 - r.1) (y := r.2.2.2 - r.2.1) (a := 8192) (b := 8192) (by omega) (by omega) (by omega) (by omega)
    rw [W_id (n := r.2.2.1 - r.1) (by omega) (by omega), W_id (n := r.2.2.2 - r.2.1) (by omega) (by omega), W_id (by omega) (by omega), Int.toNat_of_nonneg (by omega), Int.toNat_of_nonneg (by omega)]

theorem meet_has {a b : R4} (x y : Int) : has (meet a b) x y = (has a x y && has b x y) := by
  rw [Bool.eq_iff_iff, Bool.and_eq_true, has_iff, has_iff, has_iff]
  unfold meet
  dsimp only
  (repeat' split) <;> omega

theorem SplitMeets_law (a b : R4) (x y : Int) : (law37_SplitMeets.t (a, b, x, y)).run = some true := by
  unfold law37_SplitMeets.t
  simp only [tr_ite, tr_ret, tr_opt, Meet_eq, Option.bind_some, ← has_def]
  have small : ∀ (c : Bool), c = (decide (a.1 > -100) && decide (a.2.1 > -100) && decide (a.2.2.1 < 100) && decide (a.2.2.2 < 100) && decide (a.1 < 100) && decide (a.2.1 < 100) && decide (a.2.2.1 > -100) && decide (a.2.2.2 > -100)) →
      (if (!c) = true then (law37_awake ()).bind fun r => some r else (law37_SplitMeets.l0 (a, 0, a.1, ())).bind fun r => if exEq r.1 (Ex.exit 0) = true then (law37_awake ()).bind fun r_1 => if r_1 = true then (split_Size r.2.1).bind fun r_2 => some (r_2 == r.2.2.1) else some false else none) = some true := by
    intro c hc
    rw [awake37]
    by_cases h : c = true
    · rw [hc] at h
      simp only [Bool.and_eq_true, decide_eq_true_eq] at h
      obtain ⟨z, hz⟩ := SM_l0 a (by omega) (by omega)
      rw [if_neg (by rw [hc]; simp; omega), hz]
      simp only [Option.bind_some]
      rw [if_pos (by rfl), if_pos trivial, Size_small a (by omega) (by omega)]
      simp
    · simp [h]
  by_cases hm : meets a b
  · simp only [hm, if_true, meet_has]
    cases ha : has a x y <;> cases hb : has b x y <;> simp only [Bool.and_false, Bool.and_true, Bool.not_true, Bool.not_false, Bool.false_eq_true, if_false, if_true, beq_self_eq_true, tr_fail] <;> exact small _ rfl
  · have hno : ¬ (has a x y = true ∧ has b x y = true) := fun h => hm (meets_iff.2 ⟨x, y, h.1, h.2⟩)
    simp only [hm, if_false, tr_fail]
    cases ha : has a x y <;> cases hb : has b x y <;> simp only [ha, hb, and_self, not_true_eq_false] at hno <;> simp only [Bool.and_true, Bool.not_true, Bool.not_false, Bool.false_eq_true, if_false, if_true, beq_self_eq_true] <;> exact small _ rfl


/-! ### Squares -/
def tile (w h s A : Nat) (k : Nat) : R4 := (((k % A * s : Nat) : Int), ((k / A * s : Nat) : Int), ((min (k % A * s + s) w : Nat) : Int), ((min (k / A * s + s) h : Nat) : Int))
def tl (w h s A : Nat) (n : Nat) : List R4 := (List.range n).map (tile w h s A)
theorem tl_len (w h s A n : Nat) : (tl w h s A n).length = n := by simp [tl]
theorem tl_snoc (w h s A n : Nat) : tl w h s A (n + 1) = tl w h s A n ++ [tile w h s A n] := by simp [tl, List.range_succ]

theorem take_snoc {α : Type} (l : List α) (x : α) : List.take (l.length + 1) (List.take l.length l ++ [x]) = l ++ [x] := by
  rw [List.take_length]; exact List.take_of_length_le (by simp)

theorem lt_side {i s w : Nat} (hs : 0 < s) (hw : 0 < w) : i * s < w ↔ i < (w - 1) / s + 1 := by
  have : i ≤ (w - 1) / s ↔ i * s ≤ w - 1 := Nat.le_div_iff_mul_le hs
  omega

theorem ifmin (a b : Nat) : (if (b : Int) < a then (b : Int) else a) = ((min a b : Nat) : Int) := by split <;> omega

theorem T_l3 {w h s j A : Nat} (hs : 0 < s) (hs2 : s ≤ 8192) (hw : 0 < w) (hw2 : w ≤ 8192) (hh2 : h ≤ 8192) (hA : A = (w - 1) / s + 1) (hj : j * s < h) (hbig : (j + 1) * A ≤ 4096) :
    ∃ z, split_Tiles.l3 ((w : Int), (h : Int), (s : Int), tl w h s A (j * A), ((j * s : Nat) : Int), 0, ()) = some (.exit 3, (w : Int), (h : Int), (s : Int), tl w h s A ((j + 1) * A), ((j * s : Nat) : Int), z, ()) := by
  have hA1 : 0 < A := by rw [hA]; exact Nat.succ_pos _
  have key := iter_inv (t := split_Tiles.t3) (fun x => ∃ i : Nat, x = ((w : Int), (h : Int), (s : Int), tl w h s A (j * A + i), ((j * s : Nat) : Int), ((i * s : Nat) : Int), ()) ∧ i ≤ A) (fun x => ((w : Int) - x.2.2.2.2.2.1).toNat)
    (fun e z => e = .exit 3 ∧ ∃ t, z = ((w : Int), (h : Int), (s : Int), tl w h s A ((j + 1) * A), ((j * s : Nat) : Int), t, ())) ?_ rounds ((w : Int), (h : Int), (s : Int), tl w h s A (j * A), ((j * s : Nat) : Int), 0, ()) ⟨0, by simp, Nat.zero_le _⟩ (rounds_gt (by dsimp only; omega))
  · obtain ⟨e, z, h1, rfl, t, rfl⟩ := key
    exact ⟨t, h1⟩
  · rintro x ⟨i, rfl, hi⟩
    unfold split_Tiles.t3
    simp only [tr_ite, tr_ret, tl_len]
    by_cases hlt : i * s < w
    · have hiA : i < A := by rw [hA]; exact (lt_side hs hw).1 hlt
      rw [if_pos (by simp only [decide_eq_true_eq]; omega), if_pos (decide_eq_true (by rw [Nat.succ_mul] at hbig; unfold most; omega))]
      have e1 : W (((i * s : Nat) : Int) + (s : Int)) = ((i * s + s : Nat) : Int) := by rw [W_id (by omega) (by omega)]; omega
      have e2 : W (((j * s : Nat) : Int) + (s : Int)) = ((j * s + s : Nat) : Int) := by rw [W_id (by omega) (by omega)]; omega
      have m1 : (j * A + i) % A = i := by rw [Nat.mul_comm, Nat.mul_add_mod, Nat.mod_eq_of_lt hiA]
      have m2 : (j * A + i) / A = j := by rw [Nat.mul_comm, Nat.mul_add_div hA1, Nat.div_eq_of_lt hiA]; omega
      rw [e1, e2]
      refine ⟨.normal, _, rfl, .inl ⟨rfl, ⟨i + 1, ?_, hiA⟩, by dsimp only; omega⟩⟩
      have e3 : tile w h s A (j * A + i) = (((i * s : Nat) : Int), ((j * s : Nat) : Int), if (w : Int) < ((i * s + s : Nat) : Int) then (w : Int) else ((i * s + s : Nat) : Int), if (h : Int) < ((j * s + s : Nat) : Int) then (h : Int) else ((j * s + s : Nat) : Int)) := by
        unfold tile; rw [m1, m2, ifmin, ifmin]
      have e4 := take_snoc (tl w h s A (j * A + i)) (tile w h s A (j * A + i))
      rw [tl_len] at e4
      rw [← Nat.add_assoc, tl_snoc, ← e4, e3, Nat.succ_mul]
    · rw [if_neg (by simp only [decide_eq_true_eq]; omega)]
      have : i = A := by
        have := mt (lt_side hs hw).2 hlt; omega
      subst this
      refine ⟨.exit 3, _, rfl, .inr ⟨by simp, rfl, ((i * s : Nat) : Int), ?_⟩⟩
      have e4 := List.take_length (l := tl w h s i (j * i + i))
      rw [tl_len] at e4
      rw [e4, Nat.succ_mul]

theorem T_l1 {w h s A B : Nat} (hs : 0 < s) (hs2 : s ≤ 8192) (hw : 0 < w) (hw2 : w ≤ 8192) (hh : 0 < h) (hh2 : h ≤ 8192) (hA : A = (w - 1) / s + 1) (hB : B = (h - 1) / s + 1) (hbig : B * A ≤ 4096) :
    ∃ z, split_Tiles.l1 ((w : Int), (h : Int), (s : Int), [], 0, ()) = some (.exit 1, (w : Int), (h : Int), (s : Int), tl w h s A (B * A), z, ()) := by
  have key := iter_inv (t := split_Tiles.t1) (fun x => ∃ j : Nat, x = ((w : Int), (h : Int), (s : Int), tl w h s A (j * A), ((j * s : Nat) : Int), ()) ∧ j ≤ B) (fun x => ((h : Int) - x.2.2.2.2.1).toNat)
    (fun e z => e = .exit 1 ∧ ∃ t, z = ((w : Int), (h : Int), (s : Int), tl w h s A (B * A), t, ())) ?_ rounds ((w : Int), (h : Int), (s : Int), [], 0, ()) ⟨0, by simp [tl], Nat.zero_le _⟩ (rounds_gt (by dsimp only; omega))
  · obtain ⟨e, z, h1, rfl, t, rfl⟩ := key
    exact ⟨t, h1⟩
  · rintro x ⟨j, rfl, hj⟩
    unfold split_Tiles.t1
    simp only [tr_ite, tr_ret, tr_opt, List.take_length]
    by_cases hlt : j * s < h
    · have hjB : j < B := by rw [hB]; exact (lt_side hs hh).1 hlt
      have hmul : (j + 1) * A ≤ B * A := Nat.mul_le_mul_right _ hjB
      obtain ⟨z, hz⟩ := T_l3 hs hs2 hw hw2 hh2 hA hlt (Nat.le_trans hmul hbig)
      rw [if_pos (by simp only [decide_eq_true_eq]; omega), hz, Option.bind_some, if_pos (by rfl)]
      have e2 : W (((j * s : Nat) : Int) + (s : Int)) = (((j + 1) * s : Nat) : Int) := by rw [W_id (by omega) (by omega), Nat.succ_mul]; omega
      dsimp only
      rw [e2]
      exact ⟨.normal, _, rfl, .inl ⟨rfl, ⟨j + 1, rfl, hjB⟩, by dsimp only; rw [Nat.succ_mul]; omega⟩⟩
    · rw [if_neg (by simp only [decide_eq_true_eq]; omega)]
      have : j = B := by
        have := mt (lt_side hs hh).2 hlt; omega
      subst this
      exact ⟨.exit 1, _, rfl, .inr ⟨by simp, rfl, _, rfl⟩⟩

theorem sides {w s : Nat} (hs : 0 < s) (hw : 0 < w) : (w + s - 1) / s = (w - 1) / s + 1 := by
  rw [show w + s - 1 = (w - 1) + s by omega, Nat.add_div_right _ hs]

theorem Tiles_eq {w h s A B : Nat} (hm : may w h) (hs : 0 < s) (hs2 : s ≤ 8192) (hA : A = (w - 1) / s + 1) (hB : B = (h - 1) / s + 1) :
    split_Tiles ((w : Int), (h : Int), (s : Int)) = some (if A * B ≤ 4096 then (tl w h s A (A * B), 0) else ([], 4)) := by
  have hm' := hm
  unfold may at hm'
  unfold split_Tiles split_Tiles.t
  simp only [tr_ite, tr_ret, tr_opt, may_eq]
  rw [if_neg (by simp [hm]), if_neg (by simp; omega), if_neg (by simp; omega), if_neg (by simp; omega)]
  have a1 : W (W ((w : Int) + s) - 1) = ((w + s - 1 : Nat) : Int) := by rw [W_id (n := (w : Int) + s) (by omega) (by omega), W_id (by omega) (by omega)]; omega
  have a2 : W (W ((h : Int) + s) - 1) = ((h + s - 1 : Nat) : Int) := by rw [W_id (n := (h : Int) + s) (by omega) (by omega), W_id (by omega) (by omega)]; omega
  have hA8 : A ≤ 8192 := by rw [hA]; have := Nat.div_le_self (w - 1) s; omega
  have hB8 : B ≤ 8192 := by rw [hB]; have := Nat.div_le_self (h - 1) s; omega
  rw [a1, a2, tdiv_nat, tdiv_nat, sides hs (by omega), sides hs (by omega), ← hA, ← hB, W_nat (by omega), W_nat (by omega)]
  have hAB : A * B ≤ 8192 * 8192 := Nat.mul_le_mul hA8 hB8
  have e : ((A : Int) * B) = ((A * B : Nat) : Int) := by simp
  rw [e, W_nat (by omega)]
  by_cases hbig : A * B ≤ 4096
  · rw [if_neg (by simp only [decide_eq_true_eq]; omega), if_pos hbig]
    obtain ⟨z, hz⟩ := T_l1 (B := B) hs hs2 (by omega) (by omega) (by omega) (by omega) hA hB (by rw [Nat.mul_comm]; exact hbig)
    rw [hz, Option.bind_some, if_pos (by rfl)]
    dsimp only
    rw [List.take_length, Nat.mul_comm]
  · rw [if_pos (by simp only [decide_eq_true_eq]; omega), if_neg hbig]

theorem tile_fits {w h s A B k : Nat} (hs : 0 < s) (hw : 0 < w) (hh : 0 < h) (hA : A = (w - 1) / s + 1) (hB : B = (h - 1) / s + 1) (hk : k < A * B) : fits w h (tile w h s A k) := by
  have h1 : k % A < A := Nat.mod_lt _ (by rw [hA]; exact Nat.succ_pos _)
  have h2 : k / A < B := Nat.div_lt_of_lt_mul hk
  rw [hA] at h1
  have h3 := (lt_side hs hw).2 h1
  rw [← hA] at h3
  rw [hB] at h2
  have h4 := (lt_side hs hh).2 h2
  unfold fits tile
  dsimp only
  omega

theorem between {i s q : Nat} (hs : 0 < s) : i * s ≤ q ∧ q < i * s + s ↔ i = q / s := by
  rw [← Nat.succ_mul]
  constructor
  · rintro ⟨h1, h2⟩
    have := (Nat.le_div_iff_mul_le hs).2 h1
    have := (Nat.div_lt_iff_lt_mul hs).2 h2
    omega
  · intro h
    subst h
    exact ⟨Nat.div_mul_le_self q s, (Nat.div_lt_iff_lt_mul hs).1 (by omega)⟩

theorem tile_once {w h s A B : Nat} (hs : 0 < s) (hw : 0 < w) (hh : 0 < h) (hA : A = (w - 1) / s + 1) (hB : B = (h - 1) / s + 1) : once w h (tl w h s A (A * B)) := by
  intro p hp
  have hx : p % w < w := Nat.mod_lt _ hw
  have hy : p / w < h := Nat.div_lt_of_lt_mul hp
  generalize hxx : p % w = x at *
  generalize hyy : p / w = y at *
  have hA1 : 0 < A := by rw [hA]; exact Nat.succ_pos _
  have c1 : x / s < A := by rw [hA]; have := Nat.div_le_div_right (c := s) (show x ≤ w - 1 by omega); omega
  have c2 : y / s < B := by rw [hB]; have := Nat.div_le_div_right (c := s) (show y ≤ h - 1 by omega); omega
  have b1 := fun i => between (i := i) (q := x) hs
  have b2 := fun i => between (i := i) (q := y) hs
  generalize x / s = cx at *
  generalize y / s = cy at *
  have hc : A * cy + cx < A * B := by
    have : A * (cy + 1) ≤ A * B := Nat.mul_le_mul_left _ c2
    rw [Nat.mul_succ] at this; omega
  unfold tl
  rw [List.countP_map]
  have e : (List.range (A * B)).countP ((fun r => hasP w r p) ∘ tile w h s A) = (List.range (A * B)).countP fun (i : Nat) => decide (((A * cy + cx : Nat) : Int) ≤ (i : Int)) && decide ((i : Int) < ((A * cy + cx + 1 : Nat) : Int)) := by
    apply List.countP_congr
    intro k hk
    simp only [Function.comp, Bool.and_eq_true, decide_eq_true_eq]
    unfold hasP
    rw [has_iff]
    unfold tile
    dsimp only
    rw [hxx, hyy]
    have b1 := b1 (k % A)
    have b2 := b2 (k / A)
    have hd := Nat.div_add_mod k A
    have hback : k = A * cy + cx → k % A = cx ∧ k / A = cy := fun hk' => by
      rw [hk', Nat.mul_add_mod, Nat.mod_eq_of_lt c1, Nat.mul_add_div hA1, Nat.div_eq_of_lt c1]; exact ⟨rfl, by omega⟩
    generalize k % A = u at *
    generalize k / A = v at *
    constructor
    · rintro ⟨g1, g2, g3, g4⟩
      have hu := b1.1 (by omega)
      have hv := b2.1 (by omega)
      subst hu hv
      omega
    · rintro ⟨g1, g2⟩
      obtain ⟨g3, g4⟩ := hback (by omega)
      have := b1.2 g3
      have := b2.2 g4
      omega
  rw [e, countP_range_between _ _ _ (by omega) (by omega) (by omega)]
  omega

theorem LT_l0 {w h s A B : Nat} (hw : 0 < w) (hw2 : w ≤ 8192) (hh : 0 < h) (hh2 : h ≤ 8192) (hs : 0 < s) (hs2 : s ≤ 8192) (hA : A = (w - 1) / s + 1) (hB : B = (h - 1) / s + 1) (hbig : A * B ≤ 4096) :
    ∃ z, law37_SplitTiles.l0 ((w : Int), (h : Int), (s : Int), false, tl w h s A (A * B), (A : Int), 0, ()) = some (.exit 0, (w : Int), (h : Int), (s : Int), false, tl w h s A (A * B), (A : Int), z, ()) := by
  have key := iter_inv (t := law37_SplitTiles.t0) (fun x => ∃ k : Nat, x = ((w : Int), (h : Int), (s : Int), false, tl w h s A (A * B), (A : Int), (k : Int), ()) ∧ k ≤ A * B) (fun x => A * B - x.2.2.2.2.2.2.1.toNat)
    (fun e z => e = .exit 0 ∧ ∃ t, z = ((w : Int), (h : Int), (s : Int), false, tl w h s A (A * B), (A : Int), t, ())) ?_ rounds ((w : Int), (h : Int), (s : Int), false, tl w h s A (A * B), (A : Int), 0, ()) ⟨0, rfl, Nat.zero_le _⟩ (rounds_gt (by dsimp only; omega))
  · obtain ⟨e, z, h1, rfl, t, rfl⟩ := key
    exact ⟨t, h1⟩
  · rintro x ⟨k, rfl, hk⟩
    unfold law37_SplitTiles.t0
    simp only [tr_ite, tr_ret, tr_opt, tl_len, lget_nat]
    by_cases hlt : k < A * B
    · have hg : (tl w h s A (A * B))[k]? = some (tile w h s A k) := by simp [tl, hlt]
      have hA0 : 0 < A := by rw [hA]; exact Nat.succ_pos _
      rw [if_pos (by simp only [decide_eq_true_eq]; omega), if_neg (by simp; omega), if_neg (by simp; omega), hg]
      simp only [Option.bind_some, tmod_nat, tdiv_nat]
      have h1 : k % A < A := Nat.mod_lt _ (by rw [hA]; exact Nat.succ_pos _)
      have h2 : k / A < B := Nat.div_lt_of_lt_mul hlt
      have g1 : k % A * s < w := by rw [hA] at h1; have := (lt_side hs hw).2 h1; rwa [← hA] at this
      have g2 : k / A * s < h := by rw [hB] at h2; exact (lt_side hs hh).2 h2
      have e1 : ((k % A : Nat) : Int) * (s : Int) = ((k % A * s : Nat) : Int) := by simp
      have e2 : ((k / A : Nat) : Int) * (s : Int) = ((k / A * s : Nat) : Int) := by simp
      have hd := Nat.div_le_self k A
      rw [W_nat (n := k / A) (by omega), e1, e2, W_nat (n := k % A * s) (by omega), W_nat (n := k / A * s) (by omega)]
      have e3 : ((k % A * s : Nat) : Int) + (s : Int) = ((k % A * s + s : Nat) : Int) := by omega
      have e4 : ((k / A * s : Nat) : Int) + (s : Int) = ((k / A * s + s : Nat) : Int) := by omega
      have lo : ∀ a b : Nat, ref01_Low ((a : Int), (b : Int)) = some ((min a b : Nat) : Int) := fun a b => by
        unfold ref01_Low ref01_Low.t
        simp only [tr_ite, tr_ret]
        split
        · rename_i h; simp at h; congr 1; omega
        · rename_i h; simp at h; congr 1; omega
      rw [e3, e4, W_nat (n := k % A * s + s) (by omega), W_nat (n := k / A * s + s) (by omega), lo, lo]
      simp only [Option.bind_some]
      have hw1 : W ((k : Int) + 1) = ((k + 1 : Nat) : Int) := by rw [W_id (by omega) (by omega)]; omega
      rw [if_neg (by simp [tile]), hw1]
      exact ⟨.normal, _, rfl, .inl ⟨rfl, ⟨k + 1, rfl, hlt⟩, by dsimp only; omega⟩⟩
    · rw [if_neg (by simp only [decide_eq_true_eq]; omega)]
      exact ⟨.exit 0, _, rfl, .inr ⟨by simp, rfl, _, rfl⟩⟩

open Classical in
theorem whole_true {w h : Nat} (hm : may w h) {l : List R4} (hl : l.length ≤ 4096) (hf : ∀ r ∈ l, fits w h r) (ho : once w h l) : split_Whole ((w : Int), (h : Int), l) = some true ∧ ref37_Whole ((w : Int), (h : Int), l) = some true := by
  rw [whole_same hm l hl, RWhole_eq hm l hl]
  exact ⟨congrArg some (decide_eq_true ⟨hf, ho⟩), congrArg some (decide_eq_true ⟨hf, ho⟩)⟩

theorem SplitTiles_law (w h s : Int) : (law37_SplitTiles.t (w, h, s)).run = some true := by
  unfold law37_SplitTiles.t
  simp only [tr_ite, tr_ret, tr_opt, rmay_eq]
  by_cases hm : may w h
  · have hm' := hm
    unfold may at hm'
    obtain ⟨w, rfl⟩ : ∃ n : Nat, w = n := ⟨w.toNat, by omega⟩
    obtain ⟨h, rfl⟩ : ∃ n : Nat, h = n := ⟨h.toNat, by omega⟩
    by_cases hs : s < 1 ∨ s > 8192
    · have ht : split_Tiles ((w : Int), (h : Int), s) = some ([], 3) := by
        unfold split_Tiles split_Tiles.t
        simp only [tr_ite, tr_ret, tr_opt, may_eq]
        rw [if_neg (by simp [hm]), if_pos (by simpa using hs)]
      rw [ht, Option.bind_some, if_neg (by simp [hm]), if_pos (by simpa using hs), awake37]
      rfl
    · obtain ⟨s, rfl⟩ : ∃ n : Nat, s = n := ⟨s.toNat, by omega⟩
      have ht := Tiles_eq (s := s) hm (by omega) (by omega) rfl rfl
      generalize hA : (w - 1) / s + 1 = A at ht
      generalize hB : (h - 1) / s + 1 = B at ht
      have hA8 : A ≤ 8192 := by rw [← hA]; have := Nat.div_le_self (w - 1) s; omega
      have hB8 : B ≤ 8192 := by rw [← hB]; have := Nat.div_le_self (h - 1) s; omega
      have hAB : A * B ≤ 8192 * 8192 := Nat.mul_le_mul hA8 hB8
      rw [ht, Option.bind_some, if_neg (by simp [hm]), if_neg (by simpa using hs), if_neg (by simp; omega), if_neg (by simp; omega)]
      have e1 : W ((w : Int) - 1) = ((w - 1 : Nat) : Int) := by rw [W_id (by omega) (by omega)]; omega
      have e2 : W ((h : Int) - 1) = ((h - 1 : Nat) : Int) := by rw [W_id (by omega) (by omega)]; omega
      have d1 := Nat.div_le_self (w - 1) s
      have d2 := Nat.div_le_self (h - 1) s
      have e3 : W (W ((W ((w : Int) - 1)).tdiv s) + 1) = (A : Int) := by
        rw [e1, tdiv_nat, W_nat (n := (w - 1) / s) (by omega), ← hA, W_id (by omega) (by omega)]; omega
      have e4 : W (W ((W ((h : Int) - 1)).tdiv s) + 1) = (B : Int) := by
        rw [e2, tdiv_nat, W_nat (n := (h - 1) / s) (by omega), ← hB, W_id (by omega) (by omega)]; omega
      have e5 : W ((A : Int) * B) = ((A * B : Nat) : Int) := by rw [show (A : Int) * B = ((A * B : Nat) : Int) by simp, W_nat (by omega)]
      rw [e3, e4, e5]
      by_cases hbig : A * B ≤ 4096
      · rw [if_neg (by simp only [decide_eq_true_eq]; omega), if_pos hbig, if_neg (by simp [tl_len])]
        obtain ⟨z, hz⟩ := LT_l0 (w := w) (h := h) (s := s) (by omega) (by omega) (by omega) (by omega) (by omega) (by omega) hA.symm hB.symm hbig
        have hwh : W ((w : Int) * h) = (w : Int) * h := (w_mul hm'.1 hm'.2.1 hm'.2.2.1 hm'.2.2.2.1).1
        obtain ⟨t1, t2⟩ := whole_true hm (l := tl w h s A (A * B)) (by rw [tl_len]; exact hbig) (fun r hr => by
          unfold tl at hr
          rw [List.mem_map] at hr
          obtain ⟨k, hk, rfl⟩ := hr
          exact tile_fits (by omega) (by omega) (by omega) hA.symm hB.symm (by simpa using hk)) (tile_once (by omega) (by omega) (by omega) hA.symm hB.symm)
        rw [hz, Option.bind_some, if_pos (by rfl), awake37]
        simp only [Option.bind_some, t1, t2, hwh, if_true]
        split <;> split <;> rfl
      · rw [if_pos (by simp only [decide_eq_true_eq]; omega), if_neg hbig, awake37]; rfl
  · have ht : split_Tiles (w, h, s) = some ([], 12) := by
      unfold split_Tiles split_Tiles.t
      simp only [tr_ite, tr_ret, tr_opt, may_eq]
      rw [if_pos (by simp [hm])]
    rw [ht, Option.bind_some, if_pos (by simp [hm]), awake37]
    rfl


/-! ### Bands -/
def band (w h m : Nat) (i : Nat) : R4 := (0, ((i * h / m : Nat) : Int), (w : Int), (((i + 1) * h / m : Nat) : Int))
def bl (w h m : Nat) (n : Nat) : List R4 := (List.range n).map (band w h m)
theorem bl_len (w h m n : Nat) : (bl w h m n).length = n := by simp [bl]
theorem bl_snoc (w h m n : Nat) : bl w h m (n + 1) = bl w h m n ++ [band w h m n] := by simp [bl, List.range_succ]

theorem Bands_1_eq {i h m : Nat} (hm : 0 < m) (hi : i ≤ 8192) (hh : h ≤ 8192) : split_Bands_1 ((i : Int), (h : Int), (m : Int)) = some ((i * h / m : Nat) : Int) := by
  have hb : i * h ≤ 8192 * 8192 := Nat.mul_le_mul hi hh
  have hd := Nat.div_le_self (i * h) m
  unfold split_Bands_1 split_Bands_1.t
  simp only [tr_ite, tr_ret]
  rw [if_neg (by simp; omega), show (i : Int) * (h : Int) = ((i * h : Nat) : Int) by simp, W_nat (n := i * h) (by omega), tdiv_nat, W_nat (by omega)]

theorem B_l1 {w h m : Nat} (hm : 0 < m) (hm2 : m ≤ h) (hh : h ≤ 8192) : ∃ z, split_Bands.l1 ((w : Int), (h : Int), (m : Int), [], (m : Int), 0, ()) = some (.exit 1, (w : Int), (h : Int), (m : Int), bl w h m m, (m : Int), z, ()) := by
  have key := iter_inv (t := split_Bands.t1) (fun x => ∃ k : Nat, x = ((w : Int), (h : Int), (m : Int), bl w h m k, (m : Int), (k : Int), ()) ∧ k ≤ m) (fun x => m - x.2.2.2.2.2.1.toNat)
    (fun e z => e = .exit 1 ∧ ∃ t, z = ((w : Int), (h : Int), (m : Int), bl w h m m, (m : Int), t, ())) ?_ rounds ((w : Int), (h : Int), (m : Int), [], (m : Int), 0, ()) ⟨0, by simp [bl], Nat.zero_le _⟩ (rounds_gt (by dsimp only; omega))
  · obtain ⟨e, z, h1, rfl, t, rfl⟩ := key
    exact ⟨t, h1⟩
  · rintro x ⟨k, rfl, hk⟩
    unfold split_Bands.t1
    simp only [tr_ite, tr_ret, tr_opt, bl_len]
    by_cases hlt : k < m
    · have hw1 : W ((k : Int) + 1) = ((k + 1 : Nat) : Int) := by rw [W_id (by omega) (by omega)]; omega
      rw [if_pos (by simpa using hlt), hw1, Bands_1_eq hm (by omega) hh, Bands_1_eq hm (by omega) hh]
      simp only [Option.bind_some]
      rw [if_pos (decide_eq_true (by unfold most; omega))]
      refine ⟨.normal, _, rfl, .inl ⟨rfl, ⟨k + 1, ?_, hlt⟩, by dsimp only; omega⟩⟩
      have e4 := take_snoc (bl w h m k) (band w h m k)
      rw [bl_len] at e4
      rw [bl_snoc, ← e4]; rfl
    · rw [if_neg (by simpa using hlt)]
      have : k = m := by omega
      subst this
      refine ⟨.exit 1, _, rfl, .inr ⟨by simp, rfl, (k : Int), ?_⟩⟩
      have e4 := List.take_length (l := bl w h k k)
      rw [bl_len] at e4
      rw [e4]

theorem Bands_eq {w h m : Nat} (hy : may w h) (hm : 0 < m) (hm2 : m ≤ h) : split_Bands ((w : Int), (h : Int), (m : Int)) = some (bl w h m m, 0) := by
  have hy' := hy
  unfold may at hy'
  unfold split_Bands split_Bands.t
  simp only [tr_ite, tr_ret, tr_opt, may_eq]
  rw [if_neg (by simp [hy]), if_neg (by simp; omega)]
  obtain ⟨z, hz⟩ := B_l1 (w := w) hm hm2 (by omega)
  rw [hz, Option.bind_some, if_pos (by rfl)]
  dsimp only
  rw [List.take_length]

theorem band_lt {h m i : Nat} (hm : 0 < m) (hm2 : m ≤ h) : i * h / m < (i + 1) * h / m := by
  have h1 : i * h / m + 1 = (i * h + m) / m := (Nat.add_div_right _ hm).symm
  have h2 : (i * h + m) / m ≤ (i + 1) * h / m := Nat.div_le_div_right (by rw [Nat.succ_mul]; omega)
  omega

theorem band_fits {w h m i : Nat} (hw : 0 < w) (hm : 0 < m) (hm2 : m ≤ h) (hi : i < m) : fits w h (band w h m i) := by
  have h1 := band_lt (i := i) hm hm2
  have h2 : (i + 1) * h / m ≤ h := by
    have : (i + 1) * h / m ≤ m * h / m := Nat.div_le_div_right (Nat.mul_le_mul_right _ hi)
    rwa [Nat.mul_div_cancel_left _ hm] at this
  unfold fits band
  dsimp only
  generalize i * h / m = u at *
  generalize (i + 1) * h / m = v at *
  omega

theorem count_steps (f : Nat → Nat) (hf : ∀ i, f i ≤ f (i + 1)) (y : Nat) (h0 : f 0 ≤ y) : ∀ n, (List.range n).countP (fun i => decide (f i ≤ y) && decide (y < f (i + 1))) = if y < f n then 1 else 0
  | 0 => by rw [if_neg (by omega)]; rfl
  | n + 1 => by
    rw [List.range_succ, List.countP_append, List.countP_singleton, count_steps f hf y h0 n]
    have := hf n
    by_cases h1 : y < f n
    · rw [if_pos h1, if_neg (by simp; omega), if_pos (by omega)]
    · rw [if_neg h1]
      by_cases h2 : y < f (n + 1)
      · rw [if_pos (by simp; omega), if_pos h2]
      · rw [if_neg (by simp; omega), if_neg h2]

theorem band_once {w h m : Nat} (hw : 0 < w) (hm : 0 < m) (_hm2 : m ≤ h) : once w h (bl w h m m) := by
  intro p hp
  have hx : p % w < w := Nat.mod_lt _ hw
  have hy : p / w < h := Nat.div_lt_of_lt_mul hp
  unfold bl
  rw [List.countP_map]
  have e : (List.range m).countP ((fun r => hasP w r p) ∘ band w h m) = (List.range m).countP fun (i : Nat) => decide ((fun i => i * h / m) i ≤ p / w) && decide (p / w < (fun i => i * h / m) (i + 1)) := by
    apply List.countP_congr
    intro k hk
    simp only [Function.comp, Bool.and_eq_true, decide_eq_true_eq]
    unfold hasP
    rw [has_iff]
    unfold band
    dsimp only
    generalize p % w = x at *
    generalize p / w = y at *
    generalize k * h / m = u at *
    generalize (k + 1) * h / m = v at *
    omega
  rw [e, count_steps (fun i => i * h / m) (fun i => Nat.div_le_div_right (Nat.mul_le_mul_right _ (Nat.le_succ i))) _ (by simp), if_pos]
  rw [Nat.mul_div_cancel_left _ hm]; exact hy

theorem LB_l0 {w h m : Nat} (hh : h ≤ 8192) (hm : 0 < m) (hm2 : m ≤ h) : ∃ z, law37_SplitBands.l0 ((w : Int), (h : Int), (m : Int), false, bl w h m m, 0, ()) = some (.exit 0, (w : Int), (h : Int), (m : Int), false, bl w h m m, z, ()) := by
  have key := iter_inv (t := law37_SplitBands.t0) (fun x => ∃ k : Nat, x = ((w : Int), (h : Int), (m : Int), false, bl w h m m, (k : Int), ()) ∧ k ≤ m) (fun x => m - x.2.2.2.2.2.1.toNat)
    (fun e z => e = .exit 0 ∧ ∃ t, z = ((w : Int), (h : Int), (m : Int), false, bl w h m m, t, ())) ?_ rounds ((w : Int), (h : Int), (m : Int), false, bl w h m m, 0, ()) ⟨0, rfl, Nat.zero_le _⟩ (rounds_gt (by dsimp only; omega))
  · obtain ⟨e, z, h1, rfl, t, rfl⟩ := key
    exact ⟨t, h1⟩
  · rintro x ⟨k, rfl, hk⟩
    unfold law37_SplitBands.t0
    simp only [tr_ite, tr_ret, tr_opt, bl_len, lget_nat]
    by_cases hlt : k < m
    · have hg : (bl w h m m)[k]? = some (band w h m k) := by simp [bl, hlt]
      have hw1 : W ((k : Int) + 1) = ((k + 1 : Nat) : Int) := by rw [W_id (by omega) (by omega)]; omega
      have hb1 : k * h ≤ 8192 * 8192 := Nat.mul_le_mul (by omega) hh
      have hb2 : (k + 1) * h ≤ 8192 * 8192 := Nat.mul_le_mul (by omega) hh
      have hd1 := Nat.div_le_self (k * h) m
      have hd2 := Nat.div_le_self ((k + 1) * h) m
      rw [if_pos (by simpa using hlt), hg, Option.bind_some, if_neg (by simp; omega), if_neg (by simp; omega), hw1, show (k : Int) * (h : Int) = ((k * h : Nat) : Int) by simp, show ((k + 1 : Nat) : Int) * (h : Int) = (((k + 1) * h : Nat) : Int) by simp,
        W_nat (n := k * h) (by omega), W_nat (n := (k + 1) * h) (by omega), tdiv_nat, tdiv_nat, W_nat (n := k * h / m) (by omega), W_nat (n := (k + 1) * h / m) (by omega), if_neg (by simp [band])]
      exact ⟨.normal, _, rfl, .inl ⟨rfl, ⟨k + 1, rfl, hlt⟩, by dsimp only; omega⟩⟩
    · rw [if_neg (by simpa using hlt)]
      exact ⟨.exit 0, _, rfl, .inr ⟨by simp, rfl, _, rfl⟩⟩

theorem SplitBands_law (w h m : Int) : (law37_SplitBands.t (w, h, m)).run = some true := by
  unfold law37_SplitBands.t
  simp only [tr_ite, tr_ret, tr_opt, rmay_eq]
  by_cases hy : may w h
  · have hy' := hy
    unfold may at hy'
    obtain ⟨w, rfl⟩ : ∃ n : Nat, w = n := ⟨w.toNat, by omega⟩
    obtain ⟨h, rfl⟩ : ∃ n : Nat, h = n := ⟨h.toNat, by omega⟩
    by_cases hs : m < 1 ∨ m > h
    · have ht : split_Bands ((w : Int), (h : Int), m) = some ([], 3) := by
        unfold split_Bands split_Bands.t
        simp only [tr_ite, tr_ret, tr_opt, may_eq]
        rw [if_neg (by simp [hy]), if_pos (by simpa using hs)]
      rw [ht, Option.bind_some, if_neg (by simp [hy]), if_pos (by simpa using hs), awake37]
      rfl
    · obtain ⟨m, rfl⟩ : ∃ n : Nat, m = n := ⟨m.toNat, by omega⟩
      rw [Bands_eq hy (by omega) (by omega), Option.bind_some, if_neg (by simp [hy]), if_neg (by simpa using hs), if_neg (by simp [bl_len])]
      obtain ⟨z, hz⟩ := LB_l0 (w := w) (h := h) (m := m) (by omega) (by omega) (by omega)
      have hwh : W ((w : Int) * h) = (w : Int) * h := (w_mul hy'.1 hy'.2.1 hy'.2.2.1 hy'.2.2.2.1).1
      rw [hz, Option.bind_some, if_pos (by rfl), awake37]
      by_cases hbig : m ≤ 4096
      · obtain ⟨t1, t2⟩ := whole_true hy (l := bl w h m m) (by rw [bl_len]; exact hbig) (fun r hr => by
          unfold bl at hr
          rw [List.mem_map] at hr
          obtain ⟨k, hk, rfl⟩ := hr
          exact band_fits (by omega) (by omega) (by omega) (by simpa using hk)) (band_once (by omega) (by omega) (by omega))
        simp only [Option.bind_some, t1, t2, hwh, if_true]
        split <;> split <;> rfl
      · have hmul : 1 * (h : Int) ≤ (w : Int) * h := Int.mul_le_mul_of_nonneg_right hy'.1 (by omega)
        simp only [Option.bind_some, hwh, if_true]
        rw [if_pos (decide_eq_true (by omega)), if_pos (decide_eq_true (by omega))]
  · have ht : split_Bands (w, h, m) = some ([], 12) := by
      unfold split_Bands split_Bands.t
      simp only [tr_ite, tr_ret, tr_opt, may_eq]
      rw [if_pos (by simp [hy])]
    rw [ht, Option.bind_some, if_pos (by simp [hy]), awake37]
    rfl

theorem SplitTiles_all (x : dens [TI, TI, TI]) (_ : insAll [TI, TI, TI] x) : (law37_SplitTiles.t x).run = some true := SplitTiles_law x.1 x.2.1 x.2.2
theorem SplitBands_all (x : dens [TI, TI, TI]) (_ : insAll [TI, TI, TI] x) : (law37_SplitBands.t x).run = some true := SplitBands_law x.1 x.2.1 x.2.2
theorem SplitMeets_all (x : dens [.st (.pair TRect (.pair TRect (.pair TI TI)))]) (_ : insAll [.st (.pair TRect (.pair TRect (.pair TI TI)))] x) : (law37_SplitMeets.t x).run = some true := SplitMeets_law x.1 x.2.1 x.2.2.1 x.2.2.2
theorem SplitWhole_all (x : dens [.st (.pair (.int .u8) (.pair (.int .u8) (.pair (.sl TRect) (.pair TI TI))))]) (h : insAll [.st (.pair (.int .u8) (.pair (.int .u8) (.pair (.sl TRect) (.pair TI TI))))] x) : (law37_SplitWhole.t x).run = some true := by
  obtain ⟨h1, h2, _⟩ := h
  exact SplitWhole_law x.1 x.2.1 x.2.2.1 x.2.2.2.1 x.2.2.2.2 h1.1 h2.1
end Go.Proofs.Pen
