/- A part of the proof that the law BvhBuilds is true of every input: models of the functions that the law reaches, and what holds of them. -/
import Derived.Test.YtncgifjccpngfaaGreatPenKit0
import Derived.Test.YtncgifjccpngfaaGreatPenKit1
import Derived.Test.YtncgifjccpngfaaGreatPenKit2
import Derived.Test.YtncgifjccpngfaaGreatPenKit3
import Derived.Test.YtncgifjccpngfaaGreatPenBvhBuilds4
import Derived.Test.YtncgifjccpngfaaGreatPenKit5
import Derived.Test.YtncgifjccpngfaaGreatPenBvhBuilds6
namespace Go.Proofs.Pen
open Go Go.Proofs

def mk (l : List Tr) (ax : Int) (i : Int) : Int := kx (part (tMid (trA l i)) ax)
def okL (l : List Tr) : Prop := l.all tMay = true
theorem trA_may {l : List Tr} (h : okL l) {i : Int} (hi : 0 ≤ i ∧ i < (l.length : Int)) : tMay (trA l i) = true := by
  have := lget_tr hi
  unfold lget at this
  rw [if_neg (by omega)] at this
  exact List.all_eq_true.1 h _ (List.mem_of_getElem? this)
theorem okV_part {v : V3} (h : okV v) (ax : Int) : okK (part v ax) := by
  unfold part
  split
  · exact h.1
  · split
    · exact h.2.1
    · exact h.2.2
theorem mk_ok {l : List Tr} (h : okL l) (ax : Int) {i : Int} (hi : 0 ≤ i ∧ i < (l.length : Int)) : okK (part (tMid (trA l i)) ax) := okV_part (tMid_ok (trA_may h hi)) ax
def ltM (l : List Tr) (ax : Int) (a b : Int) : Bool := decide (mk l ax a < mk l ax b ∨ (mk l ax a = mk l ax b ∧ a < b))
theorem ltM_ord (l : List Tr) (ax : Int) (s : List Int) : OrdL (ltM l ax) s :=
  ⟨fun a _ => by unfold ltM; simp, fun a _ b _ c _ h1 h2 => by unfold ltM at *; simp at *; omega, fun a _ b _ h1 h2 => by unfold ltM at *; simp at *; omega⟩

theorem spot_step (l : List Tr) (ax : Int) (s a : List Int) (k : Nat) (hk : k < s.length) (hL : okL l) (hs : okS l s) (has : okS l a) (ha : a.length < 1000) :
    ref12_sorted.l2 (l, s, ax, a, (k : Int), part (tMid (trA l s[k])) ax, 0, ()) = some (.exit 2, l, s, ax, a, (k : Int), part (tMid (trA l s[k])) ax, ((a.takeWhile fun y => !ltM l ax s[k] y).length : Int), ()) := by
  have hsk := hs _ (List.getElem_mem hk)
  refine iter_find (t := ref12_sorted.t2) a (fun y => !ltM l ax s[k] y) (fun j => (l, s, ax, a, (k : Int), part (tMid (trA l s[k])) ax, (j : Int), ())) (fun j => (l, s, ax, a, (k : Int), part (tMid (trA l s[k])) ax, (j : Int), ())) (e := .exit 2) (by simp) (fun j hj => ?_) ?_ (rounds_gt (by omega))
  · have haj := has _ (List.getElem_mem hj)
    have hcmp := flt_kx (mk_ok hL ax hsk) (mk_ok hL ax haj)
    have heqc := feq_kx (mk_ok hL ax hsk) (mk_ok hL ax haj)
    have hg : a[0 + Int.toNat (j : Int)]? = some a[j] := by rw [Nat.zero_add, Int.toNat_natCast, List.getElem?_eq_getElem hj]
    unfold flt at hcmp
    unfold feq at heqc
    unfold ref12_sorted.t2
    dsimp only
    rw [tr_yes (by simp; omega), tr_yes (by simp; omega), tr_opt, hg, Option.bind_some, tr_opt, lget_tr haj, Option.bind_some, tr_opt, ref12_Mid_eq, Option.bind_some, tr_opt, ref04_Part_eq, Option.bind_some, hcmp, heqc, W_succ (by omega), List.take_length]
    show (T.ite (!decide (mk l ax s[k] < mk l ax a[j])) (T.ite (decide (mk l ax s[k] = mk l ax a[j])) _ _) _).run = _
    unfold ltM
    rcases Int.lt_trichotomy (mk l ax s[k]) (mk l ax a[j]) with h | h | h
    · rw [tr_no (by simp; omega), tr_ret, if_neg (by simp; omega)]
    · rw [tr_yes (by simp; omega), tr_yes (by simp; omega), tr_opt, lget_nat s hk, Option.bind_some, tr_yes (by simp; omega), tr_opt, Option.bind_some, tr_ite]
      by_cases h2 : s[k] < a[j]
      · rw [if_pos (decide_eq_true h2), tr_ret, if_neg (by simp; omega)]
      · rw [if_neg (by simpa using h2), tr_ret, if_pos (by simp; omega)]
    · rw [tr_yes (by simp; omega), tr_no (by simp; omega), tr_ret, if_pos (by simp; omega)]
  · unfold ref12_sorted.t2
    rw [tr_no (by simp), tr_ret, List.take_length]
theorem okS_sortG {l : List Tr} {s : List Int} (h : okS l s) (go : Int → Int → Bool) : okS l (sortG go s) := fun i hi => h i ((sortG_perm go s).mem_iff.1 hi)
theorem okS_take {l : List Tr} {s : List Int} (h : okS l s) (k : Nat) : okS l (s.take k) := fun i hi => h i (List.mem_of_mem_take hi)
theorem okS_drop {l : List Tr} {s : List Int} (h : okS l s) (k : Nat) : okS l (s.drop k) := fun i hi => h i (List.mem_of_mem_drop hi)
theorem Sorted_loop (l : List Tr) (ax : Int) (s : List Int) (hL : okL l) (hs : okS l s) (hl : s.length < 1000) : ref12_sorted (l, s, ax) = some (sortG (fun x y => !ltM l ax x y) s) := by
  unfold ref12_sorted ref12_sorted.t
  rw [tr_opt]
  have h := iter_count (t := ref12_sorted.t0) (fun k => (l, s, ax, sortG (fun x y => !ltM l ax x y) (s.take k), (k : Int), ())) (e := .exit 0) (z := (l, s, ax, sortG (fun x y => !ltM l ax x y) s, (s.length : Int), ())) (by simp) s.length 0 rounds (fun k _ hk => by
    have hk : k < s.length := by omega
    have hl : (sortG (fun x y => !ltM l ax x y) (s.take k)).length = k := by rw [sortG_len, List.length_take]; omega
    have hao := okS_sortG (okS_take hs k) (fun x y => !ltM l ax x y)
    rw [sortG_take _ s hk, insG_eq]
    generalize ha : sortG (fun x y => !ltM l ax x y) (s.take k) = a at hl hao
    have hp := takeWhile_le (fun y => !ltM l ax s[k] y) a
    have hl2 := spot_step l ax s a k hk hL hs hao (by omega)
    generalize hP : (a.takeWhile fun y => !ltM l ax s[k] y).length = p at hp hl2
    have hlen : (List.take p a).length = p := by rw [List.length_take]; omega
    have hdl : (List.take (a.length - p) (List.drop p a)).length = a.length - p := by rw [List.length_take, List.length_drop]; omega
    unfold ref12_sorted.t0
    dsimp only
    rw [tr_yes (by simp; omega), tr_opt, lget_nat s hk, Option.bind_some, tr_opt, lget_tr (hs _ (List.getElem_mem hk)), Option.bind_some, tr_opt, ref12_Mid_eq, Option.bind_some, tr_opt, ref04_Part_eq, Option.bind_some, tr_opt, List.take_length, hl2, Option.bind_some, tr_yes (by rfl), tr_yes (by simp; omega)]
    simp only [Int.toNat_natCast, Int.toNat_zero, Nat.zero_add, List.drop_zero, Nat.sub_zero, List.take_nil, List.nil_append]
    rw [tr_yes (by rw [hlen]; unfold most; simp; omega), tr_opt, lget_nat s hk, Option.bind_some, tr_yes (by rw [hlen]; unfold most; simp; omega), tr_yes (by simp; omega), tr_yes (by rw [hlen, hdl]; unfold most; simp; omega), tr_ret, W_succ (by omega), splice1 a]) (by
    unfold ref12_sorted.t0
    rw [tr_no (by simp), tr_ret, Nat.zero_add, List.take_length, List.take_length]) (rounds_gt (by omega))
  refine bind_of h ?_
  rw [tr_yes (by rfl), tr_ret, List.take_length]
theorem Sorted_eq (l : List Tr) (ax : Int) (s : List Int) (hL : okL l) (hs : okS l s) (hl : s.length < 1000) : ref12_sorted (l, s, ax) = some (insS (ltM l ax) s) := by
  rw [Sorted_loop l ax s hL hs hl, sortG_eq (ltM_ord l ax s) (fun a _ b _ h => by simpa using h) (fun a _ b _ h => ?_)]
  unfold ltM at *; simp at *; omega

theorem CmpI_eq (a b : Int) : CmpI (a, b) = some (if a < b then -1 else if b < a then 1 else 0) := by
  unfold CmpI CmpI.t
  dsimp only
  rw [tr_no (by simp), tr_no (by simp), tr_ite]
  by_cases h : a < b
  · rw [if_pos (decide_eq_true h), if_pos h, tr_ret]
  · rw [if_neg (by simpa using h), if_neg h, tr_ite]
    by_cases h2 : b < a
    · rw [if_pos (by simpa using h2), if_pos h2, tr_ret]
    · rw [if_neg (by simpa using h2), if_neg h2, tr_ret]
theorem CmpF_eq {a b : Fl} (ha : okK a) (hb : okK b) : CmpF (a, b) = some (if kx a < kx b then -1 else if kx b < kx a then 1 else 0) := by
  have self : ∀ {x : Fl}, okK x → (ford x x != some Ordering.eq) = false := fun {x} hx => by
    have := feq_kx hx hx
    unfold feq at this
    rw [bne, this]; simp
  have h1 := flt_kx ha hb
  have h2 := fgt_kx ha hb
  unfold flt at h1
  unfold fgt at h2
  unfold CmpF CmpF.t
  dsimp only
  rw [tr_no (self ha), tr_no (self hb), h1, h2, tr_ite]
  by_cases h : kx a < kx b
  · rw [if_pos (decide_eq_true h), if_pos h, tr_ret]
  · rw [if_neg (by simpa using h), if_neg h, tr_ite]
    by_cases h2 : kx b < kx a
    · rw [if_pos (by simpa using h2), if_pos h2, tr_ret]
    · rw [if_neg (by simpa using h2), if_neg h2, tr_ret]
theorem or_step (x y : Int) (r : Int) (k : Nat) (hk : k < 2) : (cmp_Or.t0 (r, 0, [x, y], 2, (k : Int), ())).run = some (if [x, y][k] == 0 then (.normal, r, 0, [x, y], 2, ((k + 1 : Nat) : Int), ()) else (.ret, [x, y][k], 0, [x, y], 2, (k : Int), ())) := by
  unfold cmp_Or.t0
  dsimp only
  rw [tr_yes (by simp; omega), tr_opt, lget_nat [x, y] (k := k) hk, Option.bind_some, W_succ (by omega), tr_ite]
  generalize [x, y][k] = v
  by_cases h : v = 0
  · subst h; rfl
  · rw [if_pos (by simpa using h), if_neg (by simpa using h), tr_ret]
theorem cmp_Or_eq (x y : Int) : cmp_Or [x, y] = some (if x = 0 then y else x) := by
  unfold cmp_Or cmp_Or.t
  rw [tr_opt]
  obtain ⟨r, hr⟩ : ∃ r, rounds = r + 3 := ⟨rounds - 3, by have := rounds_gt (n := 3) (by omega); omega⟩
  have s0 := or_step x y 0 0 (by omega)
  have s1 := or_step x y 0 1 (by omega)
  have hl : cmp_Or.l0 (0, 0, [x, y], (([x, y] : List Int).length : Int), 0, ()) = (iterT cmp_Or.t0 (r + 3) (0, 0, [x, y], 2, ((0 : Nat) : Int), ())).run := by rw [← hr]; rfl
  by_cases h : x = 0
  · subst h
    rw [if_pos rfl]
    rw [if_pos (by rfl)] at s0
    by_cases h : y = 0
    · subst h
      rw [if_pos (by rfl)] at s1
      have s2 : (cmp_Or.t0 (0, 0, [(0 : Int), 0], 2, ((2 : Nat) : Int), ())).run = some (.exit 0, 0, 0, [(0 : Int), 0], 2, 2, ()) := by
        unfold cmp_Or.t0
        rw [tr_no (by rfl), tr_ret]; rfl
      refine bind_of (hl.trans ((iter_step s0).trans ((iter_step s1).trans (iter_step s2)))) ?_
      rw [tr_yes (by rfl), tr_ret]
    · rw [if_neg (by simpa using h)] at s1
      refine bind_of (hl.trans ((iter_step s0).trans (iter_step s1))) ?_
      rw [tr_no (by rfl), tr_yes (by rfl), tr_ret]; rfl
  · rw [if_neg (by simpa using h)] at s0
    refine bind_of (hl.trans (iter_step s0)) ?_
    rw [tr_no (by rfl), tr_yes (by rfl), tr_ret, if_neg h]; rfl

abbrev BldD := List Bx × List V3 × Bool × List Nd × List Int
theorem median1_eq (l : List Tr) (B : List Bx) (w : Bool) (N : List Nd) (O : List Int) (ax i : Int) (hi : 0 ≤ i ∧ i < (l.length : Int)) : bvh_builder_median_1 (i, (B, l.map tMid, w, N, O), ax) = some (part (tMid (trA l i)) ax) := by
  unfold bvh_builder_median_1 bvh_builder_median_1.t
  dsimp only
  rw [tr_opt, lget_map tMid hi, Option.bind_some, tr_opt, vec_Part_eq, Option.bind_some, tr_ret]
def cmpM (l : List Tr) (ax a b : Int) : Int := if mk l ax a < mk l ax b then -1 else if mk l ax b < mk l ax a then 1 else if a < b then -1 else if b < a then 1 else 0
theorem median2_eq (l : List Tr) (B : List Bx) (w : Bool) (N : List Nd) (O : List Int) (ax a b : Int) (hL : okL l) (ha : 0 ≤ a ∧ a < (l.length : Int)) (hb : 0 ≤ b ∧ b < (l.length : Int)) : bvh_builder_median_2 (a, b, (B, l.map tMid, w, N, O), ax) = some (cmpM l ax a b) := by
  unfold bvh_builder_median_2 bvh_builder_median_2.t
  dsimp only
  rw [tr_opt, median1_eq l B w N O ax a ha, Option.bind_some, tr_opt, median1_eq l B w N O ax b hb, Option.bind_some, tr_opt, CmpF_eq (mk_ok hL ax ha) (mk_ok hL ax hb), Option.bind_some, tr_opt, CmpI_eq, Option.bind_some, tr_opt]
  simp only [List.take_succ_cons, List.take_zero]
  rw [cmp_Or_eq, Option.bind_some, tr_ret]
  show some (if (if mk l ax a < mk l ax b then (-1 : Int) else if mk l ax b < mk l ax a then 1 else 0) = 0 then _ else (if mk l ax a < mk l ax b then (-1 : Int) else if mk l ax b < mk l ax a then 1 else 0)) = some (cmpM l ax a b)
  unfold cmpM
  by_cases h1 : mk l ax a < mk l ax b
  · simp [h1]
  · by_cases h2 : mk l ax b < mk l ax a
    · simp [h1, h2]
    · simp [h1, h2]
theorem cmpM_lt (l : List Tr) (ax a b : Int) : decide (cmpM l ax a b < 0) = ltM l ax a b := by
  unfold cmpM ltM
  rw [decide_eq_decide]
  split
  · simp; omega
  · split
    · simp; omega
    · split
      · simp; omega
      · split <;> simp <;> omega
theorem insB_congr {f g : Int → Int → Bool} {s : List Int} (h : ∀ a ∈ s, ∀ b ∈ s, f a b = g a b) {x : Int} (hx : x ∈ s) : ∀ l : List Int, (∀ a ∈ l, a ∈ s) → insB f x l = insB g x l
  | [], _ => rfl
  | y :: l, hl => by
    unfold insB
    rw [h x hx y (hl y (by simp)), insB_congr h hx l fun a ha => hl a (by simp [ha])]
theorem insS_congr {f g : Int → Int → Bool} {s : List Int} (h : ∀ a ∈ s, ∀ b ∈ s, f a b = g a b) : ∀ l : List Int, (∀ a ∈ l, a ∈ s) → insS f l = insS g l
  | [], _ => rfl
  | y :: l, hl => by
    unfold insS
    rw [insS_congr h l fun a ha => hl a (by simp [ha])]
    exact insB_congr h (hl y (by simp)) _ fun a ha => hl a (by simp [(insS_perm g l).mem_iff.1 ha])
theorem sortO_eq {f : Int → Int → Option Int} {lt : Int → Int → Bool} {s : List Int} (hne : s ≠ []) (hl : s.length < 1000) (h : ∀ a ∈ s, ∀ b ∈ s, ∃ n, f a b = some n ∧ decide (n < 0) = lt a b) (ho : OrdL lt s) : sortO f s = some (insS lt s) := by
  have hlt : ∀ a ∈ s, ∀ b ∈ s, ltF f a b = lt a b := fun a ha b hb => by
    obtain ⟨n, h1, h2⟩ := h a ha b hb
    unfold ltF; rw [h1]; exact h2
  have hok : ordOK f s = true := by
    unfold ordOK
    rw [Bool.and_eq_true, List.all_eq_true, List.all_eq_true]
    refine ⟨fun a ha => by rw [hlt a ha a ha, ho.irr a ha]; rfl, fun a ha => List.all_eq_true.2 fun b hb => ?_⟩
    obtain ⟨n, h1, _⟩ := h a ha b hb
    rw [hlt a ha b hb, hlt b hb a ha, h1]
    have ht : (lt a b || lt b a || a == b) = true := by
      cases hab : lt a b with
      | true => rfl
      | false =>
        cases hba : lt b a with
        | true => rfl
        | false => rw [ho.tot a ha b hb hab hba]; simp
    rw [ht]
    simp only [Option.isSome_some, Bool.and_self, Bool.true_and]
    refine List.all_eq_true.2 fun c hc => ?_
    rw [hlt b hb c hc, hlt a ha c hc]
    cases hab : lt a b with
    | false => rfl
    | true =>
      cases hbc : lt b c with
      | false => rfl
      | true => rw [ho.tr a ha b hb c hc hab hbc]; rfl
  cases s with
  | nil => exact absurd rfl hne
  | cons x s =>
    have hb : Nat.ble s.length 1000000 = true := Nat.ble_eq_true_of_le (by rw [List.length_cons] at hl; omega)
    show (match ordOK f (x :: s) && Nat.ble s.length 1000000 with
      | true => some (insS (ltF f) (x :: s))
      | false => none) = _
    rw [hok, hb]
    simp only [Bool.and_self]
    rw [insS_congr hlt (x :: s) fun _ h => h]
theorem ints_id (s : List Int) : intsOf (t := .int .i64) rfl s = s := rfl
theorem median_sort (l : List Tr) (B : List Bx) (w : Bool) (N : List Nd) (O : List Int) (ax : Int) (s : List Int) (hL : okL l) (hs : okS l s) (hne : s ≠ []) (hl : s.length < 1000) : sortO (fun a b => bvh_builder_median_2 (a, b, (B, l.map tMid, w, N, O), ax)) (List.take s.length (intsOf (t := .int .i64) rfl s)) = some (insS (ltM l ax) s) := by
  rw [ints_id, List.take_length]
  exact sortO_eq hne hl (fun a ha b hb => ⟨_, median2_eq l B w N O ax a b hL (hs a ha) (hs b hb), cmpM_lt l ax a b⟩) (ltM_ord l ax s)

def halves (l : List Tr) (ax : Int) (s : List Int) : List Int × List Int := ((insS (ltM l ax) s).take (s.length / 2), (insS (ltM l ax) s).drop (s.length / 2))
theorem half_W (n : Nat) (h : n < 1000) : W ((n : Int).tdiv 2) = ((n / 2 : Nat) : Int) := by
  have : (n : Int).tdiv 2 = ((n / 2 : Nat) : Int) := by rw [Int.tdiv_eq_ediv_of_nonneg (by omega)]; omega
  rw [this, W_id (by omega) (by omega)]
theorem median_eq (l : List Tr) (B : List Bx) (w : Bool) (N : List Nd) (O : List Int) (ax : Int) (s : List Int) (hL : okL l) (hs : okS l s) (hne : s ≠ []) (hl : s.length < 1000) : bvh_builder_median ((B, l.map tMid, w, N, O), s, ax) = some (halves l ax s) := by
  unfold bvh_builder_median bvh_builder_median.t
  dsimp only
  have hlen : (insS (ltM l ax) s).length = s.length := (insS_perm _ s).length_eq
  rw [tr_yes (by unfold most; simp; omega), tr_opt, median_sort l B w N O ax s hL hs hne hl, Option.bind_some, half_W s.length hl, tr_yes (by simp; omega), tr_yes (by simp; omega), tr_ret, ints_id, List.drop_length, List.append_nil]
  simp only [Int.toNat_natCast, Int.toNat_zero, Nat.zero_add, List.drop_zero, Nat.sub_zero]
  rw [List.take_of_length_le (i := s.length - s.length / 2) (by rw [List.length_drop, hlen]; exact Nat.le_refl _)]
  rfl
end Go.Proofs.Pen

namespace Go.Proofs.Pen
open Go Go.Proofs

abbrev f8 : Fl := some 4620693217682128896
def binv (l : List Tr) (b : Bx) (ax i : Int) : Option Int := f2i .i64 (fop .mul f8 (fop .quo (fop .sub (part (tMid (trA l i)) ax) (part b.1 ax)) (fop .sub (part b.2 ax) (part b.1 ax))))
def bn (l : List Tr) (b : Bx) (ax i : Int) : Int := if 7 < (binv l b ax i).getD 0 then 7 else (binv l b ax i).getD 0
def gtB (b : Bx) (ax : Int) : Bool := fgt (part b.2 ax) (part b.1 ax)
theorem okey_8 : okey f8 = some 4620693217682128896 := okey_lit (by decide) (by decide)
theorem mul8_edge : MM (valI 4620693217682128896 * valI 4607182418800017408) = 4620693217682128896 := by kernel_rfl
theorem okA_part {b : Bx} (h : okB b) (ax : Int) : okA (part b.1 ax) (part b.2 ax) := by
  unfold part
  split
  · exact h.1
  · split
    · exact h.2.1
    · exact h.2.2
theorem inA_part {b c : Bx} (h : inB b c) (ax : Int) : inA (part b.1 ax) (part b.2 ax) (part c.1 ax) (part c.2 ax) := by
  unfold part
  split
  · exact h.1
  · split
    · exact h.2.1
    · exact h.2.2
theorem mds_ok {l : List Tr} {s : List Int} (hL : okL l) (hs : okS l s) (hne : s ≠ []) : okB (mds l s) ∧ ∀ i ∈ s, inB (tMid (trA l i), tMid (trA l i)) (mds l s) := by
  have h := bAll_ok (l := s.map fun i => (tMid (trA l i), tMid (trA l i))) (by simpa using hne) (fun b hb => by
    obtain ⟨i, hi, rfl⟩ := List.mem_map.1 hb
    exact okB_pt (tMid_ok (trA_may hL (hs i hi))))
  exact ⟨h.1, fun i hi => h.2 _ (List.mem_map_of_mem hi)⟩
theorem bxs_ok {l : List Tr} {s : List Int} (hL : okL l) (hs : okS l s) (hne : s ≠ []) : okB (bxs l s) ∧ ∀ i ∈ s, inB (bOf (trA l i)) (bxs l s) := by
  have h := bAll_ok (l := s.map fun i => bOf (trA l i)) (by simpa using hne) (fun b hb => by
    obtain ⟨i, hi, rfl⟩ := List.mem_map.1 hb
    exact bOf_ok (trA_may hL (hs i hi)))
  exact ⟨h.1, fun i hi => h.2 _ (List.mem_map_of_mem hi)⟩

theorem bin_some {lo c hi : Fl} (hl : okK lo) (hc : okK c) (hh : okK hi) (h1 : kx lo ≤ kx c) (h2 : kx c ≤ kx hi) (hgt : kx lo < kx hi) :
    ∃ n, f2i .i64 (fop .mul f8 (fop .quo (fop .sub c lo) (fop .sub hi lo))) = some n := by
  have hK := K20_eq
  have kc := sub_key hc.1 hl.1 (by have := hc.2; omega) (by have := hl.2; omega)
  have kh := sub_key hh.1 hl.1 (by have := hh.2; omega) (by have := hl.2; omega)
  have v1 := valI_mono h1
  have v2 := valI_mono h2
  have v3 := valI_lt hgt
  have bl := valI_bd hl.2.1 hl.2.2
  have bh := valI_bd hh.2.1 hh.2.2
  have z0 : RR 0 = 0 := by kernel_rfl
  have z1 : RR 1 = 1 := by kernel_rfl
  have r1 : 0 ≤ RR (valI (kx c) - valI (kx lo)) := by rw [← z0]; exact RR_mono (by omega)
  have r2 : RR (valI (kx c) - valI (kx lo)) ≤ RR (valI (kx hi) - valI (kx lo)) := RR_mono (by omega)
  have r3 : 1 ≤ RR (valI (kx hi) - valI (kx lo)) := by rw [← z1]; exact RR_mono (by omega)
  have r4 : RR (valI (kx hi) - valI (kx lo)) ≤ 4701758010974797824 := by rw [← sum_edge]; exact RR_mono (by omega)
  obtain ⟨q, hq, q0, q1⟩ := quo_key kc kh r1 r2 (by omega) (by omega)
  have hm := mul_key okey_8 hq (by decide) (by omega)
  have w0 : valI 0 = 0 := by kernel_rfl
  have w1 := valI_mono q0
  rw [w0] at w1
  have w2 := valI_mono q1
  have w8 : 0 ≤ valI 4620693217682128896 := by rw [← w0]; exact valI_mono (by decide)
  have m0 : MM 0 = 0 := by kernel_rfl
  obtain ⟨n, hn, _⟩ := f2i_key hm (by rw [← m0]; exact MM_mono (Int.mul_nonneg w8 w1)) (Int.le_trans (MM_mono (Int.mul_le_mul_of_nonneg_left w2 w8)) (Int.le_of_eq mul8_edge))
  exact ⟨n, hn⟩
theorem binv_some {l : List Tr} {s : List Int} {ax : Int} (hL : okL l) (hs : okS l s) (hg : gtB (mds l s) ax = true) {i : Int} (hi : i ∈ s) : binv l (mds l s) ax i = some ((binv l (mds l s) ax i).getD 0) := by
  obtain ⟨h1, h2⟩ := mds_ok hL hs (List.ne_nil_of_mem hi)
  have ha := okA_part h1 ax
  have hin := inA_part (h2 i hi) ax
  unfold gtB at hg
  rw [fgt_kx ha.2.1 ha.1] at hg
  obtain ⟨n, hn⟩ := bin_some ha.1 (mk_ok hL ax (hs i hi)) ha.2.1 hin.1 hin.2 (of_decide_eq_true hg)
  have : binv l (mds l s) ax i = some n := hn
  rw [this]; rfl
theorem bbin_eq (l : List Tr) (B : List Bx) (w : Bool) (N : List Nd) (O : List Int) {s : List Int} {ax : Int} (hL : okL l) (hs : okS l s) (hg : gtB (mds l s) ax = true) {i : Int} (hi : i ∈ s) : bvh_builder_bin ((B, l.map tMid, w, N, O), i, ax, mds l s) = some (bn l (mds l s) ax i) := by
  have h := binv_some hL hs hg hi
  unfold bvh_builder_bin bvh_builder_bin.t
  dsimp only
  rw [tr_opt, vec_Part_eq, Option.bind_some, tr_opt, vec_Part_eq, Option.bind_some, tr_opt, lget_map tMid (hs i hi), Option.bind_some, tr_opt, vec_Part_eq, Option.bind_some, tr_opt]
  refine bind_of (show f2i _ _ = some ((binv l (mds l s) ax i).getD 0) from h) ?_
  rw [tr_ret]; rfl
theorem low7_eq (n : Int) : ref01_Low (n, 7) = some (if 7 < n then 7 else n) := by
  unfold ref01_Low ref01_Low.t
  dsimp only
  rw [tr_ite]
  by_cases h : n < 7
  · rw [if_pos (decide_eq_true h), tr_ret, if_neg (by omega)]
  · rw [if_neg (by simpa using h), tr_ret]
    by_cases h2 : 7 < n
    · rw [if_pos h2]
    · rw [if_neg h2]; have : n = 7 := by omega
      rw [this]

def cutP (l : List Tr) (b : Bx) (ax k : Int) (f : Bool) (i : Int) : Bool := decide (bn l b ax i < k) == f
def cutL (l : List Tr) (b : Bx) (ax k : Int) (f : Bool) (s : List Int) : List Int := s.filter (cutP l b ax k f)
theorem filter_take (p : Int → Bool) (s : List Int) {k : Nat} (h : k < s.length) : (s.take (k + 1)).filter p = (if p s[k] then (s.take k).filter p ++ [s[k]] else (s.take k).filter p) := by
  rw [List.take_succ_eq_append_getElem h, List.filter_append, List.filter_cons]
  split <;> simp
theorem filter_take_le (p : Int → Bool) (s : List Int) (k : Nat) : ((s.take k).filter p).length ≤ k := Nat.le_trans (List.length_filter_le _ _) (by rw [List.length_take]; omega)
theorem at_eq (l : List Tr) (s : List Int) (ax k : Int) (f : Bool) (hL : okL l) (hs : okS l s) (hl : s.length < 900) (hg : gtB (mds l s) ax = true) : ref12_at (l, s, mds l s, ax, k, f) = some (cutL l (mds l s) ax k f s) := by
  unfold ref12_at ref12_at.t
  dsimp only
  rw [tr_opt, ref04_Part_eq, Option.bind_some, tr_opt, ref04_Part_eq, Option.bind_some, tr_opt]
  have h := iter_count (t := ref12_at.t0) (fun j => (l, s, ax, k, f, (s.take j).filter (cutP l (mds l s) ax k f), part (mds l s).1 ax, fop .sub (part (mds l s).2 ax) (part (mds l s).1 ax), (j : Int), ())) (e := .exit 0) (z := (l, s, ax, k, f, cutL l (mds l s) ax k f s, part (mds l s).1 ax, fop .sub (part (mds l s).2 ax) (part (mds l s).1 ax), (s.length : Int), ())) (by simp) s.length 0 rounds (fun j _ hj => by
    have hj : j < s.length := by omega
    have hm := List.getElem_mem hj
    have hb := binv_some hL hs hg hm
    have hle := filter_take_le (cutP l (mds l s) ax k f) s j
    rw [filter_take _ s hj]
    unfold ref12_at.t0
    dsimp only
    rw [tr_yes (by simp; omega), tr_opt, lget_nat s hj, Option.bind_some, tr_opt, lget_tr (hs _ hm), Option.bind_some, tr_opt, ref12_Mid_eq, Option.bind_some, tr_opt, ref04_Part_eq, Option.bind_some, tr_opt]
    refine bind_of (show f2i _ _ = some ((binv l (mds l s) ax s[j]).getD 0) from hb) ?_
    rw [tr_opt, low7_eq, Option.bind_some]
    show (T.ite (cutP l (mds l s) ax k f s[j]) _ _).run = _
    rw [tr_ite, W_succ (by omega)]
    split
    · rw [tr_opt, Option.bind_some, tr_yes (decide_eq_true (room (by omega) (by decide))), tr_ret, take_all]
    · rw [tr_ret, List.take_length]) (by
    unfold ref12_at.t0
    rw [tr_no (by simp), tr_ret, Nat.zero_add, List.take_length, List.take_length]; rfl) (rounds_gt (by omega))
  refine bind_of h ?_
  rw [tr_yes (by rfl), tr_ret, List.take_length]

def halfB (b : Bx) : Fl := fop .add (fop .add (fop .mul (vSub b.2 b.1).1 (vSub b.2 b.1).2.1) (fop .mul (vSub b.2 b.1).2.1 (vSub b.2 b.1).2.2)) (fop .mul (vSub b.2 b.1).2.2 (vSub b.2 b.1).1)
theorem box_Half_eq (b : Bx) : box_Half b = some (halfB b) := by
  unfold box_Half box_Half.t
  rw [tr_opt, vec_Sub_eq, Option.bind_some, tr_ret]; rfl
def cost (l : List Tr) (a b : List Int) : Fl := fop .add (fop .mul (halfB (bxs l a)) (some (FloatKind.f64.nearest (a.length : Int)))) (fop .mul (halfB (bxs l b)) (some (FloatKind.f64.nearest (b.length : Int))))
theorem cost_eq (l : List Tr) (M : List V3) (w : Bool) (N : List Nd) (O : List Int) (a b : List Int) (ha : okS l a) (hb : okS l b) (la : a.length < 1000) (lb : b.length < 1000) : bvh_builder_cost ((l.map bOf, M, w, N, O), a, b) = some (cost l a b) := by
  unfold bvh_builder_cost bvh_builder_cost.t
  dsimp only
  rw [tr_opt, around_eq l M w N O a ha la, Option.bind_some, tr_opt, box_Half_eq, Option.bind_some, tr_opt, around_eq l M w N O b hb lb, Option.bind_some, tr_opt, box_Half_eq, Option.bind_some, tr_ret]
  rfl

def pick (l : List Tr) (b : Bx) (ax : Int) (s : List Int) (k : Int) (x : Int × Fl) : Int × Fl :=
  if (cutL l b ax k true s).isEmpty || (cutL l b ax k false s).isEmpty then x
  else if x.1 == 0 || flt (cost l (cutL l b ax k true s) (cutL l b ax k false s)) x.2 then (k, cost l (cutL l b ax k true s) (cutL l b ax k false s)) else x
def picks (l : List Tr) (b : Bx) (ax : Int) (s : List Int) : Nat → Int × Fl
  | 0 => (0, f0)
  | n + 1 => pick l b ax s ((n + 1 : Nat) : Int) (picks l b ax s n)
theorem picks_cut (l : List Tr) (b : Bx) (ax : Int) (s : List Int) : ∀ n, 0 ≤ (picks l b ax s n).1 ∧ ((picks l b ax s n).1 ≠ 0 → (cutL l b ax (picks l b ax s n).1 true s) ≠ [] ∧ (cutL l b ax (picks l b ax s n).1 false s) ≠ [])
  | 0 => ⟨by simp [picks], fun h => absurd rfl h⟩
  | n + 1 => by
    have ih := picks_cut l b ax s n
    unfold picks pick
    split
    · exact ih
    · rename_i h
      split
      · refine ⟨by dsimp only; omega, fun _ => ?_⟩
        simp only [Bool.or_eq_true, List.isEmpty_iff, not_or] at h
        exact h
      · exact ih
theorem two_filter (q : Int → Bool) : ∀ s : List Int, (s.filter fun i => q i == true).length + (s.filter fun i => q i == false).length = s.length
  | [] => rfl
  | i :: s => by
    have ih := two_filter q s
    rw [List.filter_cons, List.filter_cons]
    cases q i with
    | true => rw [if_pos (by rfl), if_neg (by decide), List.length_cons, List.length_cons]; omega
    | false => rw [if_neg (by decide), if_pos (by rfl), List.length_cons, List.length_cons]; omega
theorem cutL_len (l : List Tr) (b : Bx) (ax k : Int) (s : List Int) : (cutL l b ax k true s).length + (cutL l b ax k false s).length = s.length := two_filter (fun i => decide (bn l b ax i < k)) s
theorem okS_cut {l : List Tr} {s : List Int} (h : okS l s) (b : Bx) (ax k : Int) (f : Bool) : okS l (cutL l b ax k f s) := fun i hi => h i (List.mem_filter.1 hi).1
def parted (l : List Tr) (w : Bool) (s : List Int) : List Int × List Int :=
  if w && gtB (mds l s) (lon (mds l s)) && ((picks l (mds l s) (lon (mds l s)) s 7).1 != 0) then (cutL l (mds l s) (lon (mds l s)) (picks l (mds l s) (lon (mds l s)) s 7).1 true s, cutL l (mds l s) (lon (mds l s)) (picks l (mds l s) (lon (mds l s)) s 7).1 false s)
  else halves l (lon (mds l s)) s
theorem parted_ok {l : List Tr} {s : List Int} (w : Bool) (hs : okS l s) (h2 : 2 ≤ s.length) : okS l (parted l w s).1 ∧ okS l (parted l w s).2 ∧ (parted l w s).1 ≠ [] ∧ (parted l w s).2 ≠ [] ∧ (parted l w s).1.length + (parted l w s).2.length = s.length := by
  unfold parted
  split
  · rename_i h
    rw [Bool.and_eq_true] at h
    obtain ⟨e1, e2⟩ := (picks_cut l (mds l s) (lon (mds l s)) s 7).2 (by simpa using h.2)
    exact ⟨okS_cut hs _ _ _ _, okS_cut hs _ _ _ _, e1, e2, cutL_len _ _ _ _ _⟩
  · have hp := insS_perm (ltM l (lon (mds l s))) s
    have hlen := hp.length_eq
    have ho : okS l (insS (ltM l (lon (mds l s))) s) := fun i hi => hs i (hp.mem_iff.1 hi)
    unfold halves
    refine ⟨okS_take ho _, okS_drop ho _, ?_, ?_, ?_⟩
    · intro e; have := congrArg List.length e; rw [List.length_take, hlen, List.length_nil] at this; omega
    · intro e; have := congrArg List.length e; rw [List.length_drop, hlen, List.length_nil] at this; omega
    · dsimp only; rw [List.length_take, List.length_drop, hlen]; omega
end Go.Proofs.Pen

namespace Go.Proofs.Pen
open Go Go.Proofs

theorem pick_eq (l : List Tr) (b : Bx) (ax : Int) (s : List Int) (k : Int) (j : Int) (c : Fl) : pick l b ax s k (j, c) = if ((cutL l b ax k true s).length : Int) == 0 || ((cutL l b ax k false s).length : Int) == 0 then (j, c) else if j == 0 || ford (cost l (cutL l b ax k true s) (cutL l b ax k false s)) c == some .lt then (k, cost l (cutL l b ax k true s) (cutL l b ax k false s)) else (j, c) := by
  have h : ∀ x : List Int, x.isEmpty = ((x.length : Int) == 0) := fun x => by
    cases x with
    | nil => rfl
    | cons a x => rw [List.length_cons]; symm; simp; omega
  unfold pick flt
  rw [h, h]
theorem cut_le (l : List Tr) (b : Bx) (ax k : Int) (f : Bool) (s : List Int) : (cutL l b ax k f s).length ≤ s.length := List.length_filter_le _ _
theorem parted_step (l : List Tr) (s : List Int) (hL : okL l) (hs : okS l s) (hl : s.length < 900) (hg : gtB (mds l s) (lon (mds l s)) = true) (k : Nat) (hk : k < 7) :
    (ref12_Parted.t0 (l, s, true, mds l s, lon (mds l s), (picks l (mds l s) (lon (mds l s)) s k).1, (picks l (mds l s) (lon (mds l s)) s k).2, ((k + 1 : Nat) : Int), ())).run = some (.normal, l, s, true, mds l s, lon (mds l s), (picks l (mds l s) (lon (mds l s)) s (k + 1)).1, (picks l (mds l s) (lon (mds l s)) s (k + 1)).2, ((k + 2 : Nat) : Int), ()) := by
  have hgt : (ford (part (mds l s).2 (lon (mds l s))) (part (mds l s).1 (lon (mds l s))) == some Ordering.gt) = true := hg
  rw [show picks l (mds l s) (lon (mds l s)) s (k + 1) = pick l (mds l s) (lon (mds l s)) s ((k + 1 : Nat) : Int) (picks l (mds l s) (lon (mds l s)) s k) from rfl]
  generalize hx : picks l (mds l s) (lon (mds l s)) s k = x
  obtain ⟨j, c⟩ := x
  rw [pick_eq]
  unfold ref12_Parted.t0
  dsimp only
  rw [tr_yes (by simp; omega), tr_opt, ref04_Part_eq, Option.bind_some, tr_opt, ref04_Part_eq, Option.bind_some, tr_yes hgt, tr_opt, at_eq l s (lon (mds l s)) ((k + 1 : Nat) : Int) true hL hs hl hg, Option.bind_some, tr_opt, at_eq l s (lon (mds l s)) ((k + 1 : Nat) : Int) false hL hs hl hg, Option.bind_some, W_succ (by omega), tr_ite]
  generalize hA : cutL l (mds l s) (lon (mds l s)) ((k + 1 : Nat) : Int) true s = A
  generalize hB : cutL l (mds l s) (lon (mds l s)) ((k + 1 : Nat) : Int) false s = B
  have oA : okS l A := by rw [← hA]; exact okS_cut hs _ _ _ _
  have oB : okS l B := by rw [← hB]; exact okS_cut hs _ _ _ _
  have lA : A.length < 1000 := by rw [← hA]; exact Nat.lt_of_le_of_lt (cut_le ..) (by omega)
  have lB : B.length < 1000 := by rw [← hB]; exact Nat.lt_of_le_of_lt (cut_le ..) (by omega)
  split
  · rw [tr_ret]
  · rw [tr_opt, Around_eq l A oA lA, Option.bind_some, tr_opt, Around_eq l B oB lB, Option.bind_some]
    show (T.ite (j == 0 || ford (cost l A B) c == some .lt) (T.ret (Ex.normal, l, s, true, mds l s, lon (mds l s), ((k + 1 : Nat) : Int), cost l A B, ((k + 1 + 1 : Nat) : Int), ())) _).run = _
    rw [tr_ite]
    split <;> rw [tr_ret]
theorem Parted_eq (l : List Tr) (w : Bool) (s : List Int) (hL : okL l) (hs : okS l s) (h2 : 2 ≤ s.length) (hl : s.length < 900) : ref12_Parted (l, s, w) = some (parted l w s) := by
  have hne : s ≠ [] := fun e => by rw [e] at h2; simp at h2
  have hmed : ∀ (a : Bool) (ax j : Int) (c : Fl) (i : Int), decide (j > 0) = false → ((T.ite (decide (j > 0)) (T.opt (ref12_at (l, s, mds l s, ax, j, true)) fun y_2 => T.opt (ref12_at (l, s, mds l s, ax, j, false)) fun y => T.ret (y_2, y)) (T.opt (ref12_sorted (l, s, ax)) fun y => T.ite (decide ((0 : Int) ≤ 0) && decide (0 ≤ W ((y.length : Int).tdiv 2)) && decide (W ((y.length : Int).tdiv 2) ≤ (y.length : Int))) (T.ite (decide ((0 : Int) ≤ W ((y.length : Int).tdiv 2)) && decide (W ((y.length : Int).tdiv 2) ≤ (y.length : Int)) && decide ((y.length : Int) ≤ (y.length : Int))) (T.ret (List.take ((W ((y.length : Int).tdiv 2)).toNat - Int.toNat 0) (List.drop (Int.toNat 0) y), List.take ((y.length : Int).toNat - (W ((y.length : Int).tdiv 2)).toNat) (List.drop (W ((y.length : Int).tdiv 2)).toNat y))) T.fail) T.fail)).run) = some (halves l ax s) := by
    intro a ax j c i hj
    have hlen : (insS (ltM l ax) s).length = s.length := (insS_perm _ s).length_eq
    rw [tr_no hj, tr_opt, Sorted_eq l ax s hL hs (by omega), Option.bind_some, hlen, half_W s.length (by omega), tr_yes (by simp; omega), tr_yes (by simp; omega), tr_ret]
    simp only [Int.toNat_natCast, Int.toNat_zero, List.drop_zero, Nat.sub_zero]
    rw [List.take_of_length_le (i := s.length - s.length / 2) (by rw [List.length_drop, hlen]; exact Nat.le_refl _)]
    rfl
  unfold ref12_Parted ref12_Parted.t
  dsimp only
  rw [tr_opt, Around_eq l s hs (by omega), Option.bind_some, tr_opt, ref12_longest_eq, Option.bind_some, tr_opt]
  obtain ⟨r, hr⟩ : ∃ r, rounds = r + 1 := ⟨rounds - 1, by have := rounds_gt (n := 1) (by omega); omega⟩
  unfold parted
  cases w with
  | false =>
    have hrun : ref12_Parted.l0 (l, s, false, mds l s, lon (mds l s), 0, some 0, 1, ()) = some (.exit 0, l, s, false, mds l s, lon (mds l s), 0, some 0, 1, ()) := by
      show (iterT ref12_Parted.t0 rounds _).run = _
      rw [hr, iter_step (e := .exit 0) (by unfold ref12_Parted.t0; rw [tr_no (by simp), tr_ret])]
    refine bind_of hrun ?_
    rw [tr_yes (by rfl)]
    exact hmed false (lon (mds l s)) 0 f0 1 (by rfl)
  | true =>
    cases hg : gtB (mds l s) (lon (mds l s)) with
    | false =>
      have hgt : (ford (part (mds l s).2 (lon (mds l s))) (part (mds l s).1 (lon (mds l s))) == some Ordering.gt) = false := hg
      have hrun : ref12_Parted.l0 (l, s, true, mds l s, lon (mds l s), 0, some 0, 1, ()) = some (.exit 0, l, s, true, mds l s, lon (mds l s), 0, some 0, 1, ()) := by
        show (iterT ref12_Parted.t0 rounds _).run = _
        rw [hr, iter_step (e := .exit 0) (by unfold ref12_Parted.t0; dsimp only; rw [tr_yes (by rfl), tr_opt, ref04_Part_eq, Option.bind_some, tr_opt, ref04_Part_eq, Option.bind_some, tr_no hgt, tr_ret])]
      refine bind_of hrun ?_
      rw [tr_yes (by rfl)]
      exact hmed false (lon (mds l s)) 0 f0 1 (by rfl)
    | true =>
      have h := iter_count (t := ref12_Parted.t0) (fun k => (l, s, true, mds l s, lon (mds l s), (picks l (mds l s) (lon (mds l s)) s k).1, (picks l (mds l s) (lon (mds l s)) s k).2, ((k + 1 : Nat) : Int), ())) (e := .exit 0) (z := (l, s, true, mds l s, lon (mds l s), (picks l (mds l s) (lon (mds l s)) s 7).1, (picks l (mds l s) (lon (mds l s)) s 7).2, 8, ())) (by simp) 7 0 rounds (fun k _ hk => parted_step l s hL hs hl hg k (by omega)) (by
        unfold ref12_Parted.t0
        rw [tr_no (by rfl), tr_ret]; rfl) (rounds_gt (by omega))
      refine bind_of h ?_
      rw [tr_yes (by rfl)]
      have hc := picks_cut l (mds l s) (lon (mds l s)) s 7
      generalize picks l (mds l s) (lon (mds l s)) s 7 = x at hc
      obtain ⟨j, c⟩ := x
      dsimp only at hc ⊢
      by_cases h0 : j = 0
      · subst h0
        exact hmed false (lon (mds l s)) 0 f0 1 (by rfl)
      · rw [tr_yes (by simp; omega), tr_opt, at_eq l s _ j true hL hs hl hg, Option.bind_some, tr_opt, at_eq l s _ j false hL hs hl hg, Option.bind_some, tr_ret, if_pos (by simpa using h0)]
end Go.Proofs.Pen

namespace Go.Proofs.Pen
open Go Go.Proofs

abbrev bld (l : List Tr) (w : Bool) (N : List Nd) (O : List Int) : BldD := (l.map bOf, l.map tMid, w, N, O)
theorem split_eq (l : List Tr) (w : Bool) (N : List Nd) (O : List Int) (s : List Int) (ax k : Int) (bA bB : List Int) (c : Fl) (hL : okL l) (hs : okS l s) (hl : s.length < 900) (hg : gtB (mds l s) ax = true) :
    bvh_builder_cheapest.l2 (bld l w N O, s, ax, mds l s, (bA, bB, ()), c, k, ([], [], ()), s, (s.length : Int), 0, ()) = some (.exit 2, bld l w N O, s, ax, mds l s, (bA, bB, ()), c, k, (cutL l (mds l s) ax k true s, cutL l (mds l s) ax k false s, ()), s, (s.length : Int), (s.length : Int), ()) := by
  refine iter_count (t := bvh_builder_cheapest.t2) (fun j => (bld l w N O, s, ax, mds l s, (bA, bB, ()), c, k, ((s.take j).filter (cutP l (mds l s) ax k true), (s.take j).filter (cutP l (mds l s) ax k false), ()), s, (s.length : Int), (j : Int), ())) (e := .exit 2) (by simp) s.length 0 rounds (fun j _ hj => ?_) ?_ (rounds_gt (by omega))
  · have hj : j < s.length := by omega
    have hm := List.getElem_mem hj
    have l1 := filter_take_le (cutP l (mds l s) ax k true) s j
    have l2 := filter_take_le (cutP l (mds l s) ax k false) s j
    rw [filter_take _ s hj, filter_take _ s hj]
    generalize (s.take j).filter (cutP l (mds l s) ax k true) = A at l1
    generalize (s.take j).filter (cutP l (mds l s) ax k false) = B at l2
    unfold bvh_builder_cheapest.t2
    dsimp only
    rw [tr_yes (by simp; omega), tr_opt, lget_nat s hj, Option.bind_some, tr_opt, bbin_eq l _ w N O hL hs hg hm, Option.bind_some, W_succ (by omega)]
    by_cases h : bn l (mds l s) ax s[j] < k
    · have c1 : cutP l (mds l s) ax k true s[j] = true := by unfold cutP; simp [h]
      have c2 : cutP l (mds l s) ax k false s[j] = false := by unfold cutP; simp [h]
      rw [c1, c2, if_pos rfl, if_neg (by simp), tr_no (by simp; omega), tr_yes (by rfl), tr_yes (decide_eq_true (room (by omega) (by decide))), tr_yes (by rfl), tr_ret, take_all]
      simp only [List.take_length]
    · have c1 : cutP l (mds l s) ax k true s[j] = false := by unfold cutP; simp [h]
      have c2 : cutP l (mds l s) ax k false s[j] = true := by unfold cutP; simp [h]
      rw [c1, c2, if_pos rfl, if_neg (by simp), tr_yes (by simp; omega), tr_no (by rfl), tr_yes (by rfl), tr_yes (decide_eq_true (room (by omega) (by decide))), tr_no (by rfl), tr_yes (by rfl), tr_ret, take_all]
      simp only [List.take_length]
  · unfold bvh_builder_cheapest.t2
    rw [tr_no (by simp), tr_ret, Nat.zero_add, List.take_length]
    simp only [List.take_length]
    rfl
def bestL (l : List Tr) (b : Bx) (ax : Int) (s : List Int) (j : Int) : List Int × List Int × Unit := if j == 0 then ([], [], ()) else (cutL l b ax j true s, cutL l b ax j false s, ())
theorem bestL_len (l : List Tr) (b : Bx) (ax : Int) (s : List Int) (n : Nat) : (((bestL l b ax s (picks l b ax s n).1).1.length : Int) == 0) = ((picks l b ax s n).1 == 0) := by
  have h := picks_cut l b ax s n
  generalize (picks l b ax s n).1 = j at h
  unfold bestL
  by_cases h0 : j = 0
  · subst h0; rfl
  · rw [if_neg (by simpa using h0)]
    have h1 := (h.2 h0).1
    have : (j == 0) = false := by simpa using h0
    rw [this]
    cases hc : cutL l b ax j true s with
    | nil => exact absurd hc h1
    | cons a x => rw [List.length_cons]; simp; omega
theorem cheap_step (l : List Tr) (w : Bool) (N : List Nd) (O : List Int) (s : List Int) (ax : Int) (hL : okL l) (hs : okS l s) (hl : s.length < 900) (hg : gtB (mds l s) ax = true) (k : Nat) (hk : k < 7) :
    (bvh_builder_cheapest.t0 (bld l w N O, s, ax, mds l s, bestL l (mds l s) ax s (picks l (mds l s) ax s k).1, (picks l (mds l s) ax s k).2, ((k + 1 : Nat) : Int), ())).run = some (.normal, bld l w N O, s, ax, mds l s, bestL l (mds l s) ax s (picks l (mds l s) ax s (k + 1)).1, (picks l (mds l s) ax s (k + 1)).2, ((k + 2 : Nat) : Int), ()) := by
  have hgt : (!(ford (part (mds l s).2 ax) (part (mds l s).1 ax) == some Ordering.gt)) = false := by
    have : (ford (part (mds l s).2 ax) (part (mds l s).1 ax) == some Ordering.gt) = true := hg
    rw [this]; rfl
  have hb := bestL_len l (mds l s) ax s k
  rw [show picks l (mds l s) ax s (k + 1) = pick l (mds l s) ax s ((k + 1 : Nat) : Int) (picks l (mds l s) ax s k) from rfl]
  generalize picks l (mds l s) ax s k = x at hb
  obtain ⟨j, c⟩ := x
  dsimp only at hb ⊢
  rw [pick_eq]
  have hA := split_eq l w N O s ax ((k + 1 : Nat) : Int) (bestL l (mds l s) ax s j).1 (bestL l (mds l s) ax s j).2.1 c hL hs hl hg
  unfold bvh_builder_cheapest.t0
  dsimp only
  rw [tr_yes (by simp; omega), tr_opt, vec_Part_eq, Option.bind_some, tr_opt, vec_Part_eq, Option.bind_some, tr_no hgt, List.take_length, List.take_length, tr_opt, hA, Option.bind_some, tr_yes (by rfl)]
  dsimp only
  simp only [List.take_length]
  rw [W_succ (by omega)]
  have hne : bestL l (mds l s) ax s ((k + 1 : Nat) : Int) = (cutL l (mds l s) ax ((k + 1 : Nat) : Int) true s, cutL l (mds l s) ax ((k + 1 : Nat) : Int) false s, ()) := by unfold bestL; rw [if_neg (by simp; omega)]
  generalize hA' : cutL l (mds l s) ax ((k + 1 : Nat) : Int) true s = A at hne
  generalize hB' : cutL l (mds l s) ax ((k + 1 : Nat) : Int) false s = B at hne
  have oA : okS l A := by rw [← hA']; exact okS_cut hs _ _ _ _
  have oB : okS l B := by rw [← hB']; exact okS_cut hs _ _ _ _
  have lA : A.length < 1000 := by rw [← hA']; exact Nat.lt_of_le_of_lt (cut_le ..) (by omega)
  have lB : B.length < 1000 := by rw [← hB']; exact Nat.lt_of_le_of_lt (cut_le ..) (by omega)
  by_cases h1 : ((A.length : Int) == 0) = true
  · rw [tr_yes h1, tr_ret, h1]; rfl
  · have h1 : ((A.length : Int) == 0) = false := by simpa using h1
    rw [tr_no h1]
    by_cases h2 : ((B.length : Int) == 0) = true
    · rw [tr_yes h2, tr_ret, h1, h2]; rfl
    · have h2 : ((B.length : Int) == 0) = false := by simpa using h2
      rw [tr_no h2, tr_opt, cost_eq l _ w N O A B oA oB lA lB, Option.bind_some, h1, h2, hb, tr_ite, if_neg (show ¬ (false || false) = true by simp)]
      split
      · rw [tr_ret, hne]
      · rw [tr_ret]
theorem cheapest_eq (l : List Tr) (N : List Nd) (O : List Int) (s : List Int) (hL : okL l) (hs : okS l s) (h2 : 2 ≤ s.length) (hl : s.length < 900) : bvh_builder_cheapest (bld l true N O, s, lon (mds l s), mds l s) = some (parted l true s) := by
  have hne : s ≠ [] := fun e => by rw [e] at h2; simp at h2
  unfold bvh_builder_cheapest bvh_builder_cheapest.t
  dsimp only
  rw [tr_opt]
  have hlen : (insS (ltM l (lon (mds l s))) s).length = s.length := (insS_perm _ s).length_eq
  obtain ⟨r, hr⟩ : ∃ r, rounds = r + 1 := ⟨rounds - 1, by have := rounds_gt (n := 1) (by omega); omega⟩
  unfold parted
  cases hg : gtB (mds l s) (lon (mds l s)) with
  | false =>
    have hgt : (!(ford (part (mds l s).2 (lon (mds l s))) (part (mds l s).1 (lon (mds l s))) == some Ordering.gt)) = true := by
      have : (ford (part (mds l s).2 (lon (mds l s))) (part (mds l s).1 (lon (mds l s))) == some Ordering.gt) = false := hg
      rw [this]; rfl
    have hrun : bvh_builder_cheapest.l0 (bld l true N O, s, lon (mds l s), mds l s, ([], [], ()), some 0, 1, ()) = some (.exit 0, bld l true N O, s, lon (mds l s), mds l s, ([], [], ()), some 0, 1, ()) := by
      show (iterT bvh_builder_cheapest.t0 rounds _).run = _
      rw [hr, iter_step (e := .exit 0) (by unfold bvh_builder_cheapest.t0; dsimp only; rw [tr_yes (by rfl), tr_opt, vec_Part_eq, Option.bind_some, tr_opt, vec_Part_eq, Option.bind_some, tr_yes hgt, tr_ret])]
      rfl
    refine bind_of hrun ?_
    rw [tr_yes (by rfl), tr_yes (by rfl)]
    dsimp only
    rw [tr_yes (by unfold most; simp; omega), tr_opt, median_sort l _ true N O _ s hL hs hne (by omega), Option.bind_some, half_W s.length (by omega), tr_yes (by simp; omega), tr_yes (by simp; omega), tr_ret, ints_id, List.drop_length, List.append_nil]
    simp only [Int.toNat_natCast, Int.toNat_zero, Nat.zero_add, List.drop_zero, Nat.sub_zero]
    rw [List.take_of_length_le (i := s.length - s.length / 2) (by rw [List.length_drop, hlen]; exact Nat.le_refl _)]
    rfl
  | true =>
    have h := iter_count (t := bvh_builder_cheapest.t0) (fun k => (bld l true N O, s, lon (mds l s), mds l s, bestL l (mds l s) (lon (mds l s)) s (picks l (mds l s) (lon (mds l s)) s k).1, (picks l (mds l s) (lon (mds l s)) s k).2, ((k + 1 : Nat) : Int), ())) (e := .exit 0) (z := (bld l true N O, s, lon (mds l s), mds l s, bestL l (mds l s) (lon (mds l s)) s (picks l (mds l s) (lon (mds l s)) s 7).1, (picks l (mds l s) (lon (mds l s)) s 7).2, 8, ())) (by simp) 7 0 rounds (fun k _ hk => cheap_step l true N O s _ hL hs hl hg k (by omega)) (by
      unfold bvh_builder_cheapest.t0
      rw [tr_no (by rfl), tr_ret]
      simp only [List.take_length]
      rfl) (rounds_gt (by omega))
    refine bind_of h ?_
    have hb := bestL_len l (mds l s) (lon (mds l s)) s 7
    rw [tr_yes (by rfl)]
    generalize picks l (mds l s) (lon (mds l s)) s 7 = x at hb
    obtain ⟨j, c⟩ := x
    dsimp only at hb ⊢
    by_cases h0 : j = 0
    · subst h0
      rw [tr_yes (by rfl)]
      rw [tr_yes (by unfold most; simp; omega), tr_opt, median_sort l _ true N O _ s hL hs hne (by omega), Option.bind_some, half_W s.length (by omega), tr_yes (by simp; omega), tr_yes (by simp; omega), tr_ret, ints_id, List.drop_length, List.append_nil]
      simp only [Int.toNat_natCast, Int.toNat_zero, Nat.zero_add, List.drop_zero, Nat.sub_zero]
      rw [List.take_of_length_le (i := s.length - s.length / 2) (by rw [List.length_drop, hlen]; exact Nat.le_refl _)]
      rfl
    · have hj : (j == 0) = false := by simpa using h0
      rw [hj] at hb
      rw [tr_no hb, tr_ret, if_pos (by simpa using h0)]
      unfold bestL
      rw [if_neg (by simpa using h0), List.take_length, List.take_length]
end Go.Proofs.Pen

namespace Go.Proofs.Pen
open Go Go.Proofs

def lessI (a b : Int) : Bool := decide (a < b)
def pre (l : List Tr) (w : Bool) : Nat → List Int → Nat → Nat → List Nd × List Int
  | 0, _, _, _ => ([], [])
  | d + 1, s, n0, o0 =>
    if s.length ≤ 4 then ([(bxs l s, 0, 0, (o0 : Int), ((o0 + s.length : Nat) : Int))], insS lessI s)
    else ((bxs l s, ((n0 + 1 : Nat) : Int), ((n0 + 1 + (pre l w d (parted l w s).1 (n0 + 1) o0).1.length : Nat) : Int), 0, 0) :: ((pre l w d (parted l w s).1 (n0 + 1) o0).1 ++ (pre l w d (parted l w s).2 (n0 + 1 + (pre l w d (parted l w s).1 (n0 + 1) o0).1.length) (o0 + (pre l w d (parted l w s).1 (n0 + 1) o0).2.length)).1), (pre l w d (parted l w s).1 (n0 + 1) o0).2 ++ (pre l w d (parted l w s).2 (n0 + 1 + (pre l w d (parted l w s).1 (n0 + 1) o0).1.length) (o0 + (pre l w d (parted l w s).1 (n0 + 1) o0).2.length)).2)
theorem pre_size (l : List Tr) (w : Bool) : ∀ (d : Nat) (s : List Int) (n0 o0 : Nat), okS l s → s.length ≤ d → (pre l w (d + 1) s n0 o0).2.length = s.length ∧ 1 ≤ (pre l w (d + 1) s n0 o0).1.length ∧ (pre l w (d + 1) s n0 o0).1.length ≤ 2 * s.length + 1 ∧ (s ≠ [] → (pre l w (d + 1) s n0 o0).1.length + 1 ≤ 2 * s.length)
  | d, s, n0, o0, hs, hd => by
    unfold pre
    split
    · refine ⟨(insS_perm _ s).length_eq, by simp, by simp, fun h => ?_⟩
      have := List.length_pos_iff.2 h
      simp; omega
    · rename_i h4
      cases d with
      | zero => omega
      | succ d =>
        obtain ⟨p1, p2, p3, p4, p5⟩ := parted_ok w hs (by omega)
        have q3 := List.length_pos_iff.2 p3
        have q4 := List.length_pos_iff.2 p4
        obtain ⟨a1, a2, a3, a4⟩ := pre_size l w d (parted l w s).1 (n0 + 1) o0 p1 (by omega)
        obtain ⟨b1, b2, b3, b4⟩ := pre_size l w d (parted l w s).2 (n0 + 1 + (pre l w (d + 1) (parted l w s).1 (n0 + 1) o0).1.length) (o0 + (pre l w (d + 1) (parted l w s).1 (n0 + 1) o0).2.length) p2 (by omega)
        have a4 := a4 p3
        have b4 := b4 p4
        refine ⟨?_, ?_, ?_, fun _ => ?_⟩
        · rw [List.length_append, a1]; rw [a1] at b1; rw [b1]; exact p5
        · simp
        · simp only [List.length_cons, List.length_append]; omega
        · simp only [List.length_cons, List.length_append]; omega

theorem set_last {α : Type} (N : List α) (a b : α) : (N ++ [a]).set N.length b = N ++ [b] := by simp
theorem leaf_eq (l : List Tr) (w : Bool) (h : bvh_build.Fun) (s : List Int) (N : List Nd) (O : List Int) (hs : okS l s) (h4 : s.length ≤ 4) (hN : N.length < 3000) (hO : O.length < 3000) :
    (bvh_build.t h ((l.map bOf, l.map tMid, w, ()), (N, O, ()), s, ())).run = some ((N.length : Int), (l.map bOf, l.map tMid, w, ()), (N ++ [(bxs l s, 0, 0, (O.length : Int), ((O.length + s.length : Nat) : Int))], O ++ insS lessI s, ()), ()) := by
  have hlen : (insS lessI s).length = s.length := (insS_perm _ s).length_eq
  unfold bvh_build.t
  dsimp only
  simp only [List.take_length, ints_id, List.drop_length, List.append_nil, Nat.zero_add, Int.toNat_natCast]
  rw [tr_opt, around_eq l _ w N O s hs (by omega), Option.bind_some, tr_yes (by unfold most; simp; omega), tr_yes (by simp; omega), tr_yes (by unfold most; simp; omega), tr_yes (by simp; omega)]
  have hins : List.take s.length (insS (fun a b => decide (a < b)) s) = insS lessI s := List.take_of_length_le (Nat.le_of_eq hlen)
  rw [hins, hlen, tr_yes (by unfold most; simp; omega), tr_yes (by simp; omega), tr_opt, set_last, List.getElem?_append_right (Nat.le_refl _), Nat.sub_self]
  simp only [List.getElem?_cons_zero, Option.bind_some]
  rw [tr_ret, List.take_of_length_le (by simp), List.take_of_length_le (by simp [hlen])]

theorem node_eq (l : List Tr) (w : Bool) (h : bvh_build.Fun) (s : List Int) (N : List Nd) (O : List Int) (hL : okL l) (hs : okS l s) (h4 : ¬ s.length ≤ 4) (hl : s.length < 900) (hN : N.length < 3000) {X Y : List Nd × List Int} {k : Nat}
    (hX : h ((l.map bOf, l.map tMid, w, ()), (N ++ [(bxs l s, 0, 0, 0, 0)], O, ()), (parted l w s).1, ()) = some (((N.length + 1 : Nat) : Int), (l.map bOf, l.map tMid, w, ()), (N ++ [(bxs l s, 0, 0, 0, 0)] ++ X.1, O ++ X.2, ()), ()))
    (hY : h ((l.map bOf, l.map tMid, w, ()), (N ++ [(bxs l s, 0, 0, 0, 0)] ++ X.1, O ++ X.2, ()), (parted l w s).2, ()) = some ((k : Int), (l.map bOf, l.map tMid, w, ()), (N ++ [(bxs l s, 0, 0, 0, 0)] ++ X.1 ++ Y.1, O ++ X.2 ++ Y.2, ()), ())) :
    (bvh_build.t h ((l.map bOf, l.map tMid, w, ()), (N, O, ()), s, ())).run = some ((N.length : Int), (l.map bOf, l.map tMid, w, ()), (N ++ ((bxs l s, ((N.length + 1 : Nat) : Int), (k : Int), 0, 0) :: (X.1 ++ Y.1)), O ++ (X.2 ++ Y.2), ()), ()) := by
  have hne : s ≠ [] := fun e => by rw [e] at h4; simp at h4
  have hset : (N ++ [(bxs l s, (0 : Int), (0 : Int), (0 : Int), (0 : Int))] ++ X.1 ++ Y.1).set N.length (bxs l s, ((N.length + 1 : Nat) : Int), (k : Int), (0 : Int), (0 : Int)) = N ++ ((bxs l s, ((N.length + 1 : Nat) : Int), (k : Int), (0 : Int), (0 : Int)) :: (X.1 ++ Y.1)) := by simp
  have hget : (N ++ [(bxs l s, (0 : Int), (0 : Int), (0 : Int), (0 : Int))] ++ X.1 ++ Y.1)[N.length]? = some (bxs l s, 0, 0, 0, 0) := by simp
  have hlt : (decide ((0 : Int) ≤ (N.length : Int)) && decide ((N.length : Int) < ((N ++ [(bxs l s, (0 : Int), (0 : Int), (0 : Int), (0 : Int))] ++ X.1 ++ Y.1).length : Int))) = true := by simp; omega
  have htk : List.take (N.length + 1) (N ++ [(bxs l s, (0 : Int), (0 : Int), (0 : Int), (0 : Int))]) = N ++ [(bxs l s, 0, 0, 0, 0)] := List.take_of_length_le (by simp)
  have hlen : (N ++ [(bxs l s, (0 : Int), (0 : Int), (0 : Int), (0 : Int))] ++ X.1 ++ Y.1).length = (N ++ ((bxs l s, ((N.length + 1 : Nat) : Int), (k : Int), (0 : Int), (0 : Int)) :: (X.1 ++ Y.1))).length := by simp
  unfold bvh_build.t
  dsimp only
  simp only [List.take_length, Nat.zero_add, Int.toNat_natCast]
  rw [tr_opt, around_eq l _ w N O s hs (by omega), Option.bind_some, tr_yes (by unfold most; simp; omega), tr_no (by simp; omega), htk, tr_opt, middles_eq l _ w _ O s hs (by omega), Option.bind_some, tr_opt, box_Longest_eq (mds_ok hL hs hne).1, Option.bind_some]
  cases w with
  | true =>
    rw [tr_yes rfl, tr_opt, cheapest_eq l _ O s hL hs (by omega) hl, Option.bind_some, tr_opt, hX, Option.bind_some, tr_opt, hY, Option.bind_some]
    dsimp only
    rw [tr_yes hlt, tr_opt, hget, Option.bind_some, tr_ret, hset, hlen, List.take_length, List.append_assoc O]
  | false =>
    have hp : parted l false s = halves l (lon (mds l s)) s := by unfold parted; simp
    rw [tr_no rfl, tr_opt, median_eq l _ false _ O _ s hL hs hne (by omega), Option.bind_some, ← hp, tr_opt, hX, Option.bind_some, tr_opt, hY, Option.bind_some]
    dsimp only
    rw [tr_yes hlt, tr_opt, hget, Option.bind_some, tr_ret, hset, hlen, List.take_length, List.append_assoc O]
theorem build_eq (l : List Tr) (w : Bool) (hL : okL l) : ∀ (d : Nat) (s : List Int) (N : List Nd) (O : List Int), okS l s → s.length ≤ d → s.length < 900 → N.length + 2 * s.length < 2900 → O.length + s.length < 3000 →
    bvh_build.h (d + 1) ((l.map bOf, l.map tMid, w, ()), (N, O, ()), s, ()) = some ((N.length : Int), (l.map bOf, l.map tMid, w, ()), (N ++ (pre l w (d + 1) s N.length O.length).1, O ++ (pre l w (d + 1) s N.length O.length).2, ()), ())
  | d, s, N, O, hs, hd, hl, hN, hO => by
    show (bvh_build.t (bvh_build.h d) _).run = _
    unfold pre
    by_cases h4 : s.length ≤ 4
    · rw [if_pos h4, leaf_eq l w _ s N O hs h4 (by omega) (by omega)]
    · rw [if_neg h4]
      cases d with
      | zero => omega
      | succ d =>
        obtain ⟨p1, p2, p3, p4, p5⟩ := parted_ok w hs (by omega)
        have q3 := List.length_pos_iff.2 p3
        have q4 := List.length_pos_iff.2 p4
        obtain ⟨a1, _, _, a4⟩ := pre_size l w d (parted l w s).1 (N.length + 1) O.length p1 (by omega)
        have a4 := a4 p3
        have hX := build_eq l w hL d (parted l w s).1 (N ++ [(bxs l s, 0, 0, 0, 0)]) O p1 (by omega) (by omega) (by simp; omega) (by omega)
        rw [show (N ++ [(bxs l s, (0 : Int), (0 : Int), (0 : Int), (0 : Int))]).length = N.length + 1 by simp] at hX
        have hY := build_eq l w hL d (parted l w s).2 (N ++ [(bxs l s, 0, 0, 0, 0)] ++ (pre l w (d + 1) (parted l w s).1 (N.length + 1) O.length).1) (O ++ (pre l w (d + 1) (parted l w s).1 (N.length + 1) O.length).2) p2 (by omega) (by omega) (by simp only [List.length_append, List.length_cons, List.length_nil]; omega) (by simp only [List.length_append]; omega)
        rw [show (N ++ [(bxs l s, (0 : Int), (0 : Int), (0 : Int), (0 : Int))] ++ (pre l w (d + 1) (parted l w s).1 (N.length + 1) O.length).1).length = N.length + 1 + (pre l w (d + 1) (parted l w s).1 (N.length + 1) O.length).1.length by simp; omega, List.length_append] at hY
        exact node_eq l w _ s N O hL hs h4 hl (by omega) hX hY
end Go.Proofs.Pen

namespace Go.Proofs.Pen
open Go Go.Proofs

def treeOf (l : List Tr) (w : Bool) : List Nd × List Int := pre l w 1000 (nums l.length) 0 0
theorem New_big (l : List Tr) (w : Bool) (h : 512 < l.length) : bvh_New (l, w) = some (none, 4) := by
  unfold bvh_New bvh_New.t
  rw [tr_yes (by simp; omega), tr_ret]
theorem New_bad (l : List Tr) (w : Bool) (h : l.length ≤ 512) (hb : l.all tMay = false) : bvh_New (l, w) = some (none, 2) := by
  unfold bvh_New bvh_New.t
  dsimp only
  rw [tr_no (by simp; omega), tr_opt]
  rcases New_loop l w h with ⟨h1, _⟩ | ⟨_, z, hz, h2⟩
  · rw [hb] at h1; cases h1
  · refine bind_of h2 ?_
    rw [tr_no (by rfl), tr_yes (by rfl), tr_ret, hz]
theorem New_ok (l : List Tr) (w : Bool) (h : l.length ≤ 512) (hL : okL l) : bvh_New (l, w) = some (some (treeOf l w), 0) := by
  unfold bvh_New bvh_New.t
  dsimp only
  rw [tr_no (by simp; omega), tr_opt]
  rcases New_loop l w h with ⟨_, h2⟩ | ⟨h1, _⟩
  · refine bind_of h2 ?_
    rw [tr_yes (by rfl), tr_opt]
    simp only [List.take_length]
    have hb := build_eq l w hL 999 (nums l.length) [] [] (nums_ok l) (by rw [nums_len]; omega) (by rw [nums_len]; omega) (by rw [nums_len]; simp; omega) (by rw [nums_len]; simp; omega)
    rw [show (999 + 1 : Nat) = 1000 from rfl, List.nil_append, List.nil_append, List.length_nil, List.length_nil] at hb
    refine bind_of hb ?_
    rw [tr_ret]
    unfold treeOf
    rfl
  · unfold okL at hL; rw [hL] at h1; cases h1

theorem same_self (a : Fl) : (ford a a == some Ordering.eq || (ford a a != some Ordering.eq && ford a a != some Ordering.eq)) = true := by
  unfold bne; cases (ford a a == some Ordering.eq) <;> rfl
theorem ref02_Is_self (v : V3) : ref02_Is (v, v) = some true := by
  unfold ref02_Is ref02_Is.t
  dsimp only
  rw [tr_yes (same_self _), tr_yes (same_self _), tr_ret, same_self]
theorem ref04_Is_self (b : Bx) : ref04_Is (b, b) = some true := by
  unfold ref04_Is ref04_Is.t
  dsimp only
  rw [tr_opt, ref02_Is_self, Option.bind_some, tr_yes rfl, tr_opt, ref02_Is_self, Option.bind_some, tr_ret]
def selfB (b : Bx) : Prop := (ford b.1.1 b.1.1 == some .eq) = true ∧ (ford b.1.2.1 b.1.2.1 == some .eq) = true ∧ (ford b.1.2.2 b.1.2.2 == some .eq) = true ∧ (ford b.2.1 b.2.1 == some .eq) = true ∧ (ford b.2.2.1 b.2.2.1 == some .eq) = true ∧ (ford b.2.2.2 b.2.2.2 == some .eq) = true
theorem self_K {a : Fl} (h : okK a) : (ford a a == some .eq) = true := by
  have := feq_kx h h
  unfold feq at this
  rw [this]; simp
theorem bxs_self {l : List Tr} {s : List Int} (hL : okL l) (hs : okS l s) : selfB (bxs l s) := by
  by_cases hne : s = []
  · subst hne
    have i1 : (ford fInf fInf == some .eq) = true := by rw [ford_eqk, okey_inf]; rfl
    have i2 : (ford fNeg fNeg == some .eq) = true := by rw [ford_eqk, okey_neg]; rfl
    exact ⟨i1, i1, i1, i2, i2, i2⟩
  · have h := (bxs_ok hL hs hne).1
    exact ⟨self_K h.1.1, self_K h.2.1.1, self_K h.2.2.1, self_K h.1.2.1, self_K h.2.1.2.1, self_K h.2.2.2.1⟩

abbrev Wk := List Tr × Bool × Bool × (List Nd × List Int) × List (List Int × Int) × Int × List Int × List Nd × Unit
def nodeOf (l : List Tr) (s : List Int) (seen : Nat) (o : Nat) (r : Nat) : Nd := if s.length ≤ 4 then (bxs l s, 0, 0, (o : Int), ((o + s.length : Nat) : Int)) else (bxs l s, ((seen + 1 : Nat) : Int), (r : Int), 0, 0)
theorem walk_step (l : List Tr) (w f : Bool) (N : List Nd) (Od : List Int) (st : List (List Int × Int)) (s : List Int) (seen : Nat) (order : List Int) (r : Nat) (hL : okL l) (hs : okS l s) (hl : s.length < 900) (h200 : seen < 200) (hst : st.length < 900) (hor : order.length < 900) (hr : seen + 1 < r) (hN : seen < N.length) (hnd : N[seen] = nodeOf l s seen order.length r) :
    (law12_BvhBuilds.t2 (l, w, f, (N, Od), st ++ [(s, (seen : Int))], (seen : Int), order, N, ())).run = some (.normal, l, w, f, (N, Od), (if s.length ≤ 4 then st else st ++ [((parted l w s).2, (r : Int)), ((parted l w s).1, ((seen + 1 : Nat) : Int))]), ((seen + 1 : Nat) : Int), (if s.length ≤ 4 then order ++ insS lessI s else order), N, ()) := by
  have hlen : (((st ++ [(s, (seen : Int))]).length : Nat) : Int) = (st.length : Int) + 1 := by simp
  have hW : W ((st.length : Int) + 1 - 1) = (st.length : Int) := by rw [show (st.length : Int) + 1 - 1 = (st.length : Int) by omega, W_id (by omega) (by omega)]
  have hget : (st ++ [(s, (seen : Int))])[0 + Int.toNat (st.length : Int)]? = some (s, (seen : Int)) := by rw [Nat.zero_add, Int.toNat_natCast]; simp
  have hnode : bvh_Tree_Node ((N, Od), (seen : Int)) = some (N[seen], true) := by
    unfold bvh_Tree_Node bvh_Tree_Node.t
    dsimp only
    rw [tr_no (by simp), tr_no (by simp; omega), tr_opt, lget_nat N hN, Option.bind_some, tr_ret]
  have hbox : N[seen].1 = bxs l s := by rw [hnd]; unfold nodeOf; split <;> rfl
  have hsb := bxs_self hL hs
  have htk : List.take st.length (st ++ [(s, (seen : Int))]) = st := by simp
  unfold law12_BvhBuilds.t2
  dsimp only
  simp only [hlen, hW]
  rw [tr_yes (by simp; omega), tr_yes (by simp; omega), tr_opt, hget, Option.bind_some, tr_yes (by simp; omega), tr_no (by simp), tr_opt, hnode, Option.bind_some, tr_opt, Around_eq l s hs (by omega), Option.bind_some, tr_no (by rfl), tr_opt]
  refine bind_of (y := true) (by rw [hbox]; exact ref04_Is_self _) ?_
  rw [tr_no (by simp; omega), tr_opt, lget_nat N hN, Option.bind_some]
  obtain ⟨b1, b2, b3, b4, b5, b6⟩ := hsb
  rw [← hbox] at b1 b2 b3 b4 b5 b6
  rw [tr_no (by rw [b1, b2, b3, b4, b5, b6]; simp), hnd]
  unfold nodeOf
  by_cases h4 : s.length ≤ 4
  · rw [if_pos h4, if_pos h4, if_pos h4]
    have hln : (insS lessI s).length = s.length := (insS_perm _ s).length_eq
    rw [tr_yes (by simp; omega)]
    dsimp only
    rw [show W ((order.length : Int) + (s.length : Int)) = ((order.length + s.length : Nat) : Int) by rw [W_id (by omega) (by omega)]; omega, tr_no (by simp), tr_opt, rise_eq s (by omega), Option.bind_some, rise_sorted]
    show (T.ite (decide ((order.length + (insS lessI s).length) * 8 ≤ most)) (T.ret (Ex.normal, l, w, f, (N, Od), List.take ((st.length : Int).toNat - Int.toNat 0) (st ++ [(s, (seen : Int))]), W ((seen : Int) + 1), List.take (order.length + (insS lessI s).length) (List.take order.length order ++ insS lessI s), N, ())) T.fail).run = _
    rw [tr_yes (by rw [hln]; unfold most; simp; omega), tr_ret, W_succ (by omega), List.take_length, List.take_of_length_le (i := order.length + (insS lessI s).length) (by simp)]
    simp only [Int.toNat_natCast, Int.toNat_zero, Nat.sub_zero, htk]
  · rw [if_neg h4, if_neg h4, if_neg h4]
    rw [tr_no (by simp; omega), tr_opt, Parted_eq l w s hL hs (by omega) hl, Option.bind_some]
    dsimp only
    rw [W_succ (by omega), tr_no (by simp; omega)]
    simp only [Int.toNat_natCast, Int.toNat_zero, Nat.sub_zero, List.take_succ_cons, List.take_zero, List.length_cons, List.length_nil, htk, List.take_length]
    rw [tr_yes (by unfold most; simp; omega), tr_ret, List.take_of_length_le (by simp)]

theorem drop_at {α : Type} {N A B : List α} {k : Nat} {a : α} (h : N.drop k = a :: A ++ B) : ∃ hk : k < N.length, N[k] = a ∧ N.drop (k + 1) = A ++ B := by
  have hk : k < N.length := by
    rcases Nat.lt_or_ge k N.length with h1 | h1
    · exact h1
    · rw [List.drop_eq_nil_of_le h1] at h; cases h
  rw [List.drop_eq_getElem_cons hk, List.cons_append] at h
  injection h with h1 h2
  exact ⟨hk, h1, h2⟩
theorem drop_more {α : Type} {N A B : List α} {k : Nat} (h : N.drop k = A ++ B) : N.drop (k + A.length) = B := by
  rw [← List.drop_drop, h, List.drop_left]
theorem walk_eq (l : List Tr) (w f : Bool) (N : List Nd) (Od : List Int) (hL : okL l) (hN : N.length ≤ 200) : ∀ (d : Nat) (s : List Int) (st : List (List Int × Int)) (seen : Nat) (order : List Int) (rest : List Nd) (m : Nat), okS l s → s.length ≤ d → s.length < 900 → st.length + s.length < 800 → order.length + s.length < 800 → N.drop seen = (pre l w (d + 1) s seen order.length).1 ++ rest →
    (iterT law12_BvhBuilds.t2 (m + (pre l w (d + 1) s seen order.length).1.length) (l, w, f, (N, Od), st ++ [(s, (seen : Int))], (seen : Int), order, N, ())).run = (iterT law12_BvhBuilds.t2 m (l, w, f, (N, Od), st, ((seen + (pre l w (d + 1) s seen order.length).1.length : Nat) : Int), order ++ (pre l w (d + 1) s seen order.length).2, N, ())).run
  | d, s, st, seen, order, rest, m, hs, hd, hl, hst, hor, hdr => by
    by_cases h4 : s.length ≤ 4
    · have hp : pre l w (d + 1) s seen order.length = ([(bxs l s, 0, 0, (order.length : Int), ((order.length + s.length : Nat) : Int))], insS lessI s) := by unfold pre; rw [if_pos h4]
      rw [hp] at hdr ⊢
      obtain ⟨hk, hnd, _⟩ := drop_at (A := []) hdr
      have hs1 := walk_step l w f N Od st s seen order (seen + 2) hL hs hl (by omega) (by omega) (by omega) (by omega) hk (by rw [hnd]; unfold nodeOf; rw [if_pos h4])
      rw [if_pos h4, if_pos h4] at hs1
      exact iter_step hs1
    · cases d with
      | zero => omega
      | succ d =>
        obtain ⟨p1, p2, p3, p4, p5⟩ := parted_ok w hs (by omega)
        have q3 := List.length_pos_iff.2 p3
        have q4 := List.length_pos_iff.2 p4
        obtain ⟨a1, a2, _, _⟩ := pre_size l w d (parted l w s).1 (seen + 1) order.length p1 (by omega)
        generalize hX : pre l w (d + 1) (parted l w s).1 (seen + 1) order.length = X at a1 a2
        have hp : pre l w (d + 1 + 1) s seen order.length = ((bxs l s, ((seen + 1 : Nat) : Int), ((seen + 1 + X.1.length : Nat) : Int), 0, 0) :: (X.1 ++ (pre l w (d + 1) (parted l w s).2 (seen + 1 + X.1.length) (order.length + X.2.length)).1), X.2 ++ (pre l w (d + 1) (parted l w s).2 (seen + 1 + X.1.length) (order.length + X.2.length)).2) := by
          rw [← hX]
          show (if s.length ≤ 4 then _ else _) = _
          rw [if_neg h4]
        generalize hY : pre l w (d + 1) (parted l w s).2 (seen + 1 + X.1.length) (order.length + X.2.length) = Y at hp
        rw [hp] at hdr ⊢
        obtain ⟨hk, hnd, hdr1⟩ := drop_at (A := X.1 ++ Y.1) hdr
        have hs1 := walk_step l w f N Od st s seen order (seen + 1 + X.1.length) hL hs hl (by omega) (by omega) (by omega) (by omega) hk (by rw [hnd]; unfold nodeOf; rw [if_neg h4])
        rw [if_neg h4, if_neg h4] at hs1
        have e1 : m + ((bxs l s, ((seen + 1 : Nat) : Int), ((seen + 1 + X.1.length : Nat) : Int), (0 : Int), (0 : Int)) :: (X.1 ++ Y.1)).length = m + Y.1.length + X.1.length + 1 := by simp; omega
        have e2 : seen + ((bxs l s, ((seen + 1 : Nat) : Int), ((seen + 1 + X.1.length : Nat) : Int), (0 : Int), (0 : Int)) :: (X.1 ++ Y.1)).length = seen + 1 + X.1.length + Y.1.length := by simp; omega
        rw [e1, e2]
        refine (iter_step hs1).trans ?_
        have i1 := walk_eq l w f N Od hL hN d (parted l w s).1 (st ++ [((parted l w s).2, ((seen + 1 + X.1.length : Nat) : Int))]) (seen + 1) order (Y.1 ++ rest) (m + Y.1.length) p1 (by omega) (by omega) (by simp only [List.length_append, List.length_cons, List.length_nil]; omega) (by omega) (by rw [hX, hdr1, List.append_assoc])
        rw [hX] at i1
        have i2 := walk_eq l w f N Od hL hN d (parted l w s).2 st (seen + 1 + X.1.length) (order ++ X.2) rest m p2 (by omega) (by omega) (by omega) (by rw [List.length_append, a1]; omega) (by rw [List.length_append, hY]; rw [List.append_assoc] at hdr1; exact drop_more hdr1)
        rw [List.length_append, hY] at i2
        rw [show st ++ [((parted l w s).2, ((seen + 1 + X.1.length : Nat) : Int)), ((parted l w s).1, ((seen + 1 : Nat) : Int))] = st ++ [((parted l w s).2, ((seen + 1 + X.1.length : Nat) : Int))] ++ [((parted l w s).1, ((seen + 1 : Nat) : Int))] by simp, List.append_assoc order] at *
        exact i1.trans i2
end Go.Proofs.Pen

namespace Go.Proofs.Pen
open Go Go.Proofs

theorem Ints_self (a : List Int) (h : a.length < 900) : ref01_Ints (a, a) = some true := by
  unfold ref01_Ints ref01_Ints.t
  dsimp only
  rw [tr_no (by simp), tr_opt]
  have hr := iter_count (t := ref01_Ints.t0) (fun k => (a, a, false, (k : Int), ())) (e := .exit 0) (z := (a, a, false, (a.length : Int), ())) (by simp) a.length 0 rounds (fun k _ hk => by
    have hk : k < a.length := by omega
    unfold ref01_Ints.t0
    dsimp only
    rw [tr_yes (by simp; omega), tr_opt, lget_nat a hk, Option.bind_some, tr_opt, Option.bind_some, tr_no (by simp), tr_ret, W_succ (by omega)]) (by
    unfold ref01_Ints.t0
    rw [tr_no (by simp), tr_ret, Nat.zero_add]) (rounds_gt (by omega))
  refine bind_of hr ?_
  rw [tr_yes (by rfl), tr_ret]
theorem treeOf_size (l : List Tr) (w : Bool) (h : l.length ≤ 512) : (treeOf l w).2.length = l.length ∧ (treeOf l w).1.length ≤ 2 * l.length + 1 := by
  have hp := pre_size l w 999 (nums l.length) 0 0 (nums_ok l) (by rw [nums_len]; omega)
  rw [nums_len] at hp
  exact ⟨hp.1, hp.2.2.1⟩
theorem scan_bad (l : List Tr) (w : Bool) (e : Int) (hl : l.length < 900) (hb : l.all tMay = false) : ∃ i : Nat, law12_BvhBuilds.l0n (l, w, false, e, 0, ()) = some (.ret, l, w, e == 2, e, (i : Int), ()) := by
  have h := iter_scan (t := law12_BvhBuilds.t0n) l tMay (fun k => (l, w, false, e, (k : Int), ())) (fun k => (l, w, e == 2, e, (k : Int), ())) (l, w, false, e, (l.length : Int), ()) .ret (.exit 0) (fun k hk => by
    unfold law12_BvhBuilds.t0n
    dsimp only
    rw [tr_yes (by simp; omega), tr_opt, lget_nat l hk, Option.bind_some, tr_opt, ref12_May_eq, Option.bind_some, W_succ (by omega)]
    cases tMay l[k] with
    | false => rw [tr_yes (by rfl), tr_ret]; rfl
    | true => rw [tr_no (by rfl), tr_ret]; rfl) (by
    unfold law12_BvhBuilds.t0n
    rw [tr_no (by simp), tr_ret]) (by simp) (by simp) (m := rounds) (rounds_gt (by omega))
  rcases h with ⟨h1, _⟩ | ⟨_, i, h2⟩
  · rw [hb] at h1; cases h1
  · exact ⟨i, h2⟩
theorem scan_ok (l : List Tr) (w : Bool) (t : List Nd × List Int) (e : Int) (hl : l.length < 900) (hb : l.all tMay = true) : law12_BvhBuilds.l0 (l, w, false, t, e, 0, ()) = some (.exit 0, l, w, false, t, e, (l.length : Int), ()) := by
  have h := iter_scan (t := law12_BvhBuilds.t0) l tMay (fun k => (l, w, false, t, e, (k : Int), ())) (fun k => (l, w, false, t, e, (k : Int), ())) (l, w, false, t, e, (l.length : Int), ()) .ret (.exit 0) (fun k hk => by
    unfold law12_BvhBuilds.t0
    dsimp only
    rw [tr_yes (by simp; omega), tr_opt, lget_nat l hk, Option.bind_some, tr_opt, ref12_May_eq, Option.bind_some, W_succ (by omega)]
    cases tMay l[k] with
    | false => rw [tr_yes (by rfl), tr_ret]; rfl
    | true => rw [tr_no (by rfl), tr_ret]; rfl) (by
    unfold law12_BvhBuilds.t0
    rw [tr_no (by simp), tr_ret]) (by simp) (by simp) (m := rounds) (rounds_gt (by omega))
  rcases h with ⟨_, h2⟩ | ⟨h1, _⟩
  · exact h2
  · rw [hb] at h1; cases h1
theorem BvhBuilds_law : ∀ x, law12_BvhBuilds x = some true := fun ⟨l, w⟩ => by
  unfold law12_BvhBuilds law12_BvhBuilds.t
  dsimp only
  rw [tr_opt]
  by_cases hbig : 512 < l.length
  · rw [New_big l w hbig, Option.bind_some, tr_yes (by rfl), tr_yes (by simp; omega), tr_ret]; rfl
  · cases hm : l.all tMay with
    | false =>
      obtain ⟨i, hi⟩ := scan_bad l w 2 (by omega) hm
      rw [New_bad l w (by omega) hm, Option.bind_some, tr_yes (by rfl), tr_no (by simp; omega), tr_opt]
      refine bind_of hi ?_
      rw [tr_no (by rfl), tr_yes (by rfl), tr_ret]; rfl
    | true =>
      have hL : okL l := hm
      rw [New_ok l w (by omega) hL, Option.bind_some, tr_no (by rfl)]
      obtain ⟨z1, z2⟩ := treeOf_size l w (by omega)
      have hwalk : l.length ≤ 40 → ∃ r, rounds = r + 1 + (treeOf l w).1.length ∧ (iterT law12_BvhBuilds.t2 (r + 1 + (treeOf l w).1.length) (l, w, false, treeOf l w, [(nums l.length, ((0 : Nat) : Int))], ((0 : Nat) : Int), [], (treeOf l w).1, ())).run = (iterT law12_BvhBuilds.t2 (r + 1) (l, w, false, treeOf l w, [], (((treeOf l w).1.length : Nat) : Int), (treeOf l w).2, (treeOf l w).1, ())).run := fun h40 => by
        obtain ⟨r, hr⟩ : ∃ r, rounds = r + 1 + (treeOf l w).1.length := ⟨rounds - 1 - (treeOf l w).1.length, by have := rounds_gt (n := 2000) (by omega); omega⟩
        refine ⟨r, hr, ?_⟩
        have h := walk_eq l w false (treeOf l w).1 (treeOf l w).2 hL (by omega) 999 (nums l.length) [] 0 [] [] (r + 1) (nums_ok l) (by rw [nums_len]; omega) (by rw [nums_len]; omega) (by rw [nums_len]; simp; omega) (by rw [nums_len]; simp; omega) (by rw [List.append_nil]; rfl)
        have e : pre l w (999 + 1) (nums l.length) 0 ([] : List Int).length = treeOf l w := rfl
        rw [e, Nat.zero_add, List.nil_append, List.nil_append] at h
        exact h
      generalize treeOf l w = T at z1 z2 hwalk
      obtain ⟨N, O⟩ := T
      dsimp only at z1 z2 hwalk ⊢
      rw [tr_opt, Option.bind_some, tr_no (by simp; omega), tr_opt, scan_ok l w (N, O) 0 (by omega) hm, Option.bind_some, tr_yes (by rfl), tr_no (by rfl)]
      by_cases h40 : 40 < l.length
      · rw [tr_yes (by simp; omega), tr_ret]
      · obtain ⟨r, hr, hw⟩ := hwalk (by omega)
        have hnod : bvh_Tree_Nodes (N, O) = some N := by
          unfold bvh_Tree_Nodes bvh_Tree_Nodes.t
          dsimp only
          rw [tr_yes (by unfold most; simp; omega), tr_ret, List.take_length]
        have hord : bvh_Tree_Order (N, O) = some O := by
          unfold bvh_Tree_Order bvh_Tree_Order.t
          dsimp only
          rw [tr_yes (by unfold most; simp; omega), tr_ret, List.take_length]
        have hend : (law12_BvhBuilds.t2 (l, w, false, (N, O), [], (N.length : Int), O, N, ())).run = some (.exit 2, l, w, false, (N, O), [], (N.length : Int), O, N, ()) := by
          unfold law12_BvhBuilds.t2
          rw [tr_no (by rfl), tr_ret]
          simp only [List.take_length]
        have hl2 : law12_BvhBuilds.l2 (l, w, false, (N, O), [(nums l.length, 0)], 0, [], N, ()) = some (.exit 2, l, w, false, (N, O), [], (N.length : Int), O, N, ()) := by
          show (iterT law12_BvhBuilds.t2 rounds _).run = _
          rw [hr]
          refine hw.trans ?_
          rw [iter_step hend]
        rw [tr_no (by simp; omega), tr_opt, all_eq l.length (by omega), Option.bind_some, tr_opt, hnod, Option.bind_some, tr_opt]
        refine bind_of hl2 ?_
        rw [tr_yes (by rfl), tr_yes (by simp), tr_opt, hord, Option.bind_some, tr_opt, List.take_length, Ints_self O (by omega), Option.bind_some, tr_ret]
theorem BvhBuilds_all (x : dens [(.sl (.st (.pair TV (.pair TV TV)))), .bool]) (_ : insAll [(.sl (.st (.pair TV (.pair TV TV)))), .bool] x) : (law12_BvhBuilds.t x).run = some true := BvhBuilds_law x
end Go.Proofs.Pen
