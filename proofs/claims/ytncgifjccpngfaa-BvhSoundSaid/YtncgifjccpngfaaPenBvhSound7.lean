/- A part of the proof that the law BvhSound is true of every input: models of the functions that the law reaches, and what holds of them. -/
import Derived.Test.YtncgifjccpngfaaPenKit0
import Derived.Test.YtncgifjccpngfaaPenKit1
import Derived.Test.YtncgifjccpngfaaPenKit2
import Derived.Test.YtncgifjccpngfaaPenKit3
import Derived.Test.YtncgifjccpngfaaPenBvhSound4
import Derived.Test.YtncgifjccpngfaaPenKit5
import Derived.Test.YtncgifjccpngfaaPenBvhSound6
namespace Go.Proofs.Pen
open Go Go.Proofs

def lessI (a b : Int) : Bool := decide (a < b)
def pre (l : List Tr) (w : Bool) : Nat → List Int → Nat → Nat → List Nd × List Int
  | 0, _, _, _ => ([], [])
  | d + 1, s, n0, o0 =>
    if s.length ≤ 4 then ([(bxs l s, 0, 0, (o0 : Int), ((o0 + s.length : Nat) : Int))], insS lessI s)
    else ((bxs l s, ((n0 + 1 : Nat) : Int), ((n0 + 1 + (pre l w d (parted l w s).1 (n0 + 1) o0).1.length : Nat) : Int), 0, 0) :: ((pre l w d (parted l w s).1 (n0 + 1) o0).1 ++ (pre l w d (parted l w s).2 (n0 + 1 + (pre l w d (parted l w s).1 (n0 + 1) o0).1.length) (o0 + (pre l w d (parted l w s).1 (n0 + 1) o0).2.length)).1), (pre l w d (parted l w s).1 (n0 + 1) o0).2 ++ (pre l w d (parted l w s).2 (n0 + 1 + (pre l w d (parted l w s).1 (n0 + 1) o0).1.length) (o0 + (pre l w d (parted l w s).1 (n0 + 1) o0).2.length)).2)
theorem pre_size (l : List Tr) (w : Bool) : ∀ (d : Nat) (s : List Int) (n0 o0 : Nat), okS l s → s.length ≤ d → (pre l w (d + 1) s n0 o0).2.length = s.length ∧ 1 ≤ (pre l w (d + 1) s n0 o0).1.length ∧ (pre l w (d + 1) s n0 o0).1.length ≤ 2 * s.length + 1 ∧ (s ≠ [] → (pre l w (d + 1) s n0 o0).1.length + 1 ≤ 2 * s.length)
  | d, s, n0, o0, hs, hd => by
    unfold pre
    split
    · refine ⟨(insS_perm _ s).length_eq, by simp, by simp, fun h => ?_⟩
      have := List.length_pos_iff.2 h
      simp; omega
    · rename_i h4
      cases d with
      | zero => omega
      | succ d =>
        obtain ⟨p1, p2, p3, p4, p5⟩ := parted_ok w hs (by omega)
        have q3 := List.length_pos_iff.2 p3
        have q4 := List.length_pos_iff.2 p4
        obtain ⟨a1, a2, a3, a4⟩ := pre_size l w d (parted l w s).1 (n0 + 1) o0 p1 (by omega)
        obtain ⟨b1, b2, b3, b4⟩ := pre_size l w d (parted l w s).2 (n0 + 1 + (pre l w (d + 1) (parted l w s).1 (n0 + 1) o0).1.length) (o0 + (pre l w (d + 1) (parted l w s).1 (n0 + 1) o0).2.length) p2 (by omega)
        have a4 := a4 p3
        have b4 := b4 p4
        refine ⟨?_, ?_, ?_, fun _ => ?_⟩
        · rw [List.length_append, a1]; rw [a1] at b1; rw [b1]; exact p5
        · simp
        · simp only [List.length_cons, List.length_append]; omega
        · simp only [List.length_cons, List.length_append]; omega

theorem set_last {α : Type} (N : List α) (a b : α) : (N ++ [a]).set N.length b = N ++ [b] := by simp
theorem leaf_eq (l : List Tr) (w : Bool) (h : bvh_build.Fun) (s : List Int) (N : List Nd) (O : List Int) (hs : okS l s) (h4 : s.length ≤ 4) (hN : N.length < 3000) (hO : O.length < 3000) :
    (bvh_build.t h ((l.map bOf, l.map tMid, w, ()), (N, O, ()), s, ())).run = some ((N.length : Int), (l.map bOf, l.map tMid, w, ()), (N ++ [(bxs l s, 0, 0, (O.length : Int), ((O.length + s.length : Nat) : Int))], O ++ insS lessI s, ()), ()) := by
  have hlen : (insS lessI s).length = s.length := (insS_perm _ s).length_eq
  unfold bvh_build.t
  dsimp only
  simp only [List.take_length, ints_id, List.drop_length, List.append_nil, Nat.zero_add, Int.toNat_natCast]
  rw [tr_opt, around_eq l _ w N O s hs (by omega), Option.bind_some, tr_yes (by unfold most; simp; omega), tr_yes (by simp; omega), tr_yes (by unfold most; simp; omega), tr_yes (by simp; omega)]
  have hins : List.take s.length (insS (fun a b => decide (a < b)) s) = insS lessI s := List.take_of_length_le (Nat.le_of_eq hlen)
  rw [hins, hlen, tr_yes (by unfold most; simp; omega), tr_yes (by simp; omega), tr_opt, set_last, List.getElem?_append_right (Nat.le_refl _), Nat.sub_self]
  simp only [List.getElem?_cons_zero, Option.bind_some]
  rw [tr_ret, List.take_of_length_le (by simp), List.take_of_length_le (by simp [hlen])]

theorem node_eq (l : List Tr) (w : Bool) (h : bvh_build.Fun) (s : List Int) (N : List Nd) (O : List Int) (hL : okL l) (hs : okS l s) (h4 : ¬ s.length ≤ 4) (hl : s.length < 900) (hN : N.length < 3000) {X Y : List Nd × List Int} {k : Nat}
    (hX : h ((l.map bOf, l.map tMid, w, ()), (N ++ [(bxs l s, 0, 0, 0, 0)], O, ()), (parted l w s).1, ()) = some (((N.length + 1 : Nat) : Int), (l.map bOf, l.map tMid, w, ()), (N ++ [(bxs l s, 0, 0, 0, 0)] ++ X.1, O ++ X.2, ()), ()))
    (hY : h ((l.map bOf, l.map tMid, w, ()), (N ++ [(bxs l s, 0, 0, 0, 0)] ++ X.1, O ++ X.2, ()), (parted l w s).2, ()) = some ((k : Int), (l.map bOf, l.map tMid, w, ()), (N ++ [(bxs l s, 0, 0, 0, 0)] ++ X.1 ++ Y.1, O ++ X.2 ++ Y.2, ()), ())) :
    (bvh_build.t h ((l.map bOf, l.map tMid, w, ()), (N, O, ()), s, ())).run = some ((N.length : Int), (l.map bOf, l.map tMid, w, ()), (N ++ ((bxs l s, ((N.length + 1 : Nat) : Int), (k : Int), 0, 0) :: (X.1 ++ Y.1)), O ++ (X.2 ++ Y.2), ()), ()) := by
  have hne : s ≠ [] := fun e => by rw [e] at h4; simp at h4
  have hset : (N ++ [(bxs l s, (0 : Int), (0 : Int), (0 : Int), (0 : Int))] ++ X.1 ++ Y.1).set N.length (bxs l s, ((N.length + 1 : Nat) : Int), (k : Int), (0 : Int), (0 : Int)) = N ++ ((bxs l s, ((N.length + 1 : Nat) : Int), (k : Int), (0 : Int), (0 : Int)) :: (X.1 ++ Y.1)) := by simp
  have hget : (N ++ [(bxs l s, (0 : Int), (0 : Int), (0 : Int), (0 : Int))] ++ X.1 ++ Y.1)[N.length]? = some (bxs l s, 0, 0, 0, 0) := by simp
  have hlt : (decide ((0 : Int) ≤ (N.length : Int)) && decide ((N.length : Int) < ((N ++ [(bxs l s, (0 : Int), (0 : Int), (0 : Int), (0 : Int))] ++ X.1 ++ Y.1).length : Int))) = true := by simp; omega
  have htk : List.take (N.length + 1) (N ++ [(bxs l s, (0 : Int), (0 : Int), (0 : Int), (0 : Int))]) = N ++ [(bxs l s, 0, 0, 0, 0)] := List.take_of_length_le (by simp)
  have hlen : (N ++ [(bxs l s, (0 : Int), (0 : Int), (0 : Int), (0 : Int))] ++ X.1 ++ Y.1).length = (N ++ ((bxs l s, ((N.length + 1 : Nat) : Int), (k : Int), (0 : Int), (0 : Int)) :: (X.1 ++ Y.1))).length := by simp
  unfold bvh_build.t
  dsimp only
  simp only [List.take_length, Nat.zero_add, Int.toNat_natCast]
  rw [tr_opt, around_eq l _ w N O s hs (by omega), Option.bind_some, tr_yes (by unfold most; simp; omega), tr_no (by simp; omega), htk, tr_opt, middles_eq l _ w _ O s hs (by omega), Option.bind_some, tr_opt, box_Longest_eq (mds_ok hL hs hne).1, Option.bind_some]
  cases w with
  | true =>
    rw [tr_yes rfl, tr_opt, cheapest_eq l _ O s hL hs (by omega) hl, Option.bind_some, tr_opt, hX, Option.bind_some, tr_opt, hY, Option.bind_some]
    dsimp only
    rw [tr_yes hlt, tr_opt, hget, Option.bind_some, tr_ret, hset, hlen, List.take_length, List.append_assoc O]
  | false =>
    have hp : parted l false s = halves l (lon (mds l s)) s := by unfold parted; simp
    rw [tr_no rfl, tr_opt, median_eq l _ false _ O _ s hL hs hne (by omega), Option.bind_some, ← hp, tr_opt, hX, Option.bind_some, tr_opt, hY, Option.bind_some]
    dsimp only
    rw [tr_yes hlt, tr_opt, hget, Option.bind_some, tr_ret, hset, hlen, List.take_length, List.append_assoc O]
theorem build_eq (l : List Tr) (w : Bool) (hL : okL l) : ∀ (d : Nat) (s : List Int) (N : List Nd) (O : List Int), okS l s → s.length ≤ d → s.length < 900 → N.length + 2 * s.length < 2900 → O.length + s.length < 3000 →
    bvh_build.h (d + 1) ((l.map bOf, l.map tMid, w, ()), (N, O, ()), s, ()) = some ((N.length : Int), (l.map bOf, l.map tMid, w, ()), (N ++ (pre l w (d + 1) s N.length O.length).1, O ++ (pre l w (d + 1) s N.length O.length).2, ()), ())
  | d, s, N, O, hs, hd, hl, hN, hO => by
    show (bvh_build.t (bvh_build.h d) _).run = _
    unfold pre
    by_cases h4 : s.length ≤ 4
    · rw [if_pos h4, leaf_eq l w _ s N O hs h4 (by omega) (by omega)]
    · rw [if_neg h4]
      cases d with
      | zero => omega
      | succ d =>
        obtain ⟨p1, p2, p3, p4, p5⟩ := parted_ok w hs (by omega)
        have q3 := List.length_pos_iff.2 p3
        have q4 := List.length_pos_iff.2 p4
        obtain ⟨a1, _, _, a4⟩ := pre_size l w d (parted l w s).1 (N.length + 1) O.length p1 (by omega)
        have a4 := a4 p3
        have hX := build_eq l w hL d (parted l w s).1 (N ++ [(bxs l s, 0, 0, 0, 0)]) O p1 (by omega) (by omega) (by simp; omega) (by omega)
        rw [show (N ++ [(bxs l s, (0 : Int), (0 : Int), (0 : Int), (0 : Int))]).length = N.length + 1 by simp] at hX
        have hY := build_eq l w hL d (parted l w s).2 (N ++ [(bxs l s, 0, 0, 0, 0)] ++ (pre l w (d + 1) (parted l w s).1 (N.length + 1) O.length).1) (O ++ (pre l w (d + 1) (parted l w s).1 (N.length + 1) O.length).2) p2 (by omega) (by omega) (by simp only [List.length_append, List.length_cons, List.length_nil]; omega) (by simp only [List.length_append]; omega)
        rw [show (N ++ [(bxs l s, (0 : Int), (0 : Int), (0 : Int), (0 : Int))] ++ (pre l w (d + 1) (parted l w s).1 (N.length + 1) O.length).1).length = N.length + 1 + (pre l w (d + 1) (parted l w s).1 (N.length + 1) O.length).1.length by simp; omega, List.length_append] at hY
        exact node_eq l w _ s N O hL hs h4 hl (by omega) hX hY
end Go.Proofs.Pen

namespace Go.Proofs.Pen
open Go Go.Proofs

def treeOf (l : List Tr) (w : Bool) : List Nd × List Int := pre l w 1000 (nums l.length) 0 0
theorem New_ok (l : List Tr) (w : Bool) (h : l.length ≤ 512) (hL : okL l) : bvh_New (l, w) = some (some (treeOf l w), 0) := by
  unfold bvh_New bvh_New.t
  dsimp only
  rw [tr_no (by simp; omega), tr_opt]
  rcases New_loop l w h with ⟨_, h2⟩ | ⟨h1, _⟩
  · refine bind_of h2 ?_
    rw [tr_yes (by rfl), tr_opt]
    simp only [List.take_length]
    have hb := build_eq l w hL 999 (nums l.length) [] [] (nums_ok l) (by rw [nums_len]; omega) (by rw [nums_len]; omega) (by rw [nums_len]; simp; omega) (by rw [nums_len]; simp; omega)
    rw [show (999 + 1 : Nat) = 1000 from rfl, List.nil_append, List.nil_append, List.length_nil, List.length_nil] at hb
    refine bind_of hb ?_
    rw [tr_ret]
    unfold treeOf
    rfl
  · unfold okL at hL; rw [hL] at h1; cases h1

theorem same_self (a : Fl) : (ford a a == some Ordering.eq || (ford a a != some Ordering.eq && ford a a != some Ordering.eq)) = true := by
  unfold bne; cases (ford a a == some Ordering.eq) <;> rfl
theorem ref02_Is_self (v : V3) : ref02_Is (v, v) = some true := by
  unfold ref02_Is ref02_Is.t
  dsimp only
  rw [tr_yes (same_self _), tr_yes (same_self _), tr_ret, same_self]
theorem ref04_Is_self (b : Bx) : ref04_Is (b, b) = some true := by
  unfold ref04_Is ref04_Is.t
  dsimp only
  rw [tr_opt, ref02_Is_self, Option.bind_some, tr_yes rfl, tr_opt, ref02_Is_self, Option.bind_some, tr_ret]
def selfB (b : Bx) : Prop := (ford b.1.1 b.1.1 == some .eq) = true ∧ (ford b.1.2.1 b.1.2.1 == some .eq) = true ∧ (ford b.1.2.2 b.1.2.2 == some .eq) = true ∧ (ford b.2.1 b.2.1 == some .eq) = true ∧ (ford b.2.2.1 b.2.2.1 == some .eq) = true ∧ (ford b.2.2.2 b.2.2.2 == some .eq) = true
theorem self_K {a : Fl} (h : okK a) : (ford a a == some .eq) = true := by
  have := feq_kx h h
  unfold feq at this
  rw [this]; simp
theorem bxs_self {l : List Tr} {s : List Int} (hL : okL l) (hs : okS l s) : selfB (bxs l s) := by
  by_cases hne : s = []
  · subst hne
    have i1 : (ford fInf fInf == some .eq) = true := by rw [ford_eqk, okey_inf]; rfl
    have i2 : (ford fNeg fNeg == some .eq) = true := by rw [ford_eqk, okey_neg]; rfl
    exact ⟨i1, i1, i1, i2, i2, i2⟩
  · have h := (bxs_ok hL hs hne).1
    exact ⟨self_K h.1.1, self_K h.2.1.1, self_K h.2.2.1, self_K h.1.2.1, self_K h.2.1.2.1, self_K h.2.2.2.1⟩

abbrev Wk := List Tr × Bool × Bool × (List Nd × List Int) × List (List Int × Int) × Int × List Int × List Nd × Unit
theorem drop_at {α : Type} {N A B : List α} {k : Nat} {a : α} (h : N.drop k = a :: A ++ B) : ∃ hk : k < N.length, N[k] = a ∧ N.drop (k + 1) = A ++ B := by
  have hk : k < N.length := by
    rcases Nat.lt_or_ge k N.length with h1 | h1
    · exact h1
    · rw [List.drop_eq_nil_of_le h1] at h; cases h
  rw [List.drop_eq_getElem_cons hk, List.cons_append] at h
  injection h with h1 h2
  exact ⟨hk, h1, h2⟩
theorem drop_more {α : Type} {N A B : List α} {k : Nat} (h : N.drop k = A ++ B) : N.drop (k + A.length) = B := by
  rw [← List.drop_drop, h, List.drop_left]
end Go.Proofs.Pen

namespace Go.Proofs.Pen
open Go Go.Proofs

theorem parted_perm (l : List Tr) (w : Bool) (s : List Int) : ((parted l w s).1 ++ (parted l w s).2).Perm s := by
  unfold parted
  split
  · have h := List.filter_append_perm (fun i => decide (bn l (mds l s) (lon (mds l s)) i < (picks l (mds l s) (lon (mds l s)) s 7).1)) s
    have e1 : cutL l (mds l s) (lon (mds l s)) (picks l (mds l s) (lon (mds l s)) s 7).1 true s = s.filter (fun i => decide (bn l (mds l s) (lon (mds l s)) i < (picks l (mds l s) (lon (mds l s)) s 7).1)) := by
      unfold cutL; congr 1; funext i; unfold cutP; simp
    have e2 : cutL l (mds l s) (lon (mds l s)) (picks l (mds l s) (lon (mds l s)) s 7).1 false s = s.filter (fun i => !decide (bn l (mds l s) (lon (mds l s)) i < (picks l (mds l s) (lon (mds l s)) s 7).1)) := by
      unfold cutL; congr 1; funext i; unfold cutP; simp
    rw [e1, e2]; exact h
  · unfold halves
    dsimp only
    rw [List.take_append_drop]
    exact insS_perm _ s
theorem pre_perm (l : List Tr) (w : Bool) : ∀ (d : Nat) (s : List Int) (n0 o0 : Nat), okS l s → s.length ≤ d → (pre l w (d + 1) s n0 o0).2.Perm s
  | d, s, n0, o0, hs, hd => by
    unfold pre
    split
    · exact insS_perm _ s
    · rename_i h4
      cases d with
      | zero => omega
      | succ d =>
        obtain ⟨p1, p2, p3, p4, p5⟩ := parted_ok w hs (by omega)
        have q3 := List.length_pos_iff.2 p3
        have q4 := List.length_pos_iff.2 p4
        exact ((pre_perm l w d _ _ _ p1 (by omega)).append (pre_perm l w d _ _ _ p2 (by omega))).trans (parted_perm l w s)
theorem nums_sorted : ∀ n, (nums n).Pairwise (fun a b => lessI b a = false) := fun n => by
  unfold nums
  rw [List.pairwise_map]
  refine List.Pairwise.imp_of_mem (fun {a b} _ _ h => ?_) List.pairwise_lt_range
  unfold lessI; simp; omega
theorem rise_nums {O : List Int} {n : Nat} (h : O.Perm (nums n)) : sortG (fun x y => decide (y < x)) O = nums n := by
  rw [rise_sorted]
  exact (sorted_eq (lt := fun a b => decide (a < b)) (L := O) ⟨fun a _ => by simp, fun a _ b _ c _ h1 h2 => by simp at *; omega, fun a _ b _ h1 h2 => by simp at *; omega⟩ (fun _ h => h) h.symm (nums_sorted n)).symm

theorem join_in {b c : Bx} (hb : okB b) (hc : okB c) (h : inB c b) : bJoin b c = b := by
  have A : ∀ {l h l' h' : Fl}, okA l h → okA l' h' → inA l' h' l h → fLow l l' = l ∧ fHigh h h' = h := fun {l h l' h'} a b i => by
    unfold fLow fHigh
    rw [flt_kx b.1 a.1, fgt_kx b.2.1 a.2.1]
    have := i.1
    have := i.2
    exact ⟨if_neg (by simp; omega), if_neg (by simp; omega)⟩
  obtain ⟨x1, x2⟩ := A hb.1 hc.1 h.1
  obtain ⟨y1, y2⟩ := A hb.2.1 hc.2.1 h.2.1
  obtain ⟨z1, z2⟩ := A hb.2.2 hc.2.2 h.2.2
  unfold bJoin
  rw [x1, x2, y1, y2, z1, z2]
theorem join_least {b c e : Bx} (hb : okB b) (hc : okB c) (h1 : inB b e) (h2 : inB c e) : inB (bJoin b c) e := by
  have A : ∀ {l h l' h' x y : Fl}, okA l h → okA l' h' → inA l h x y → inA l' h' x y → inA (fLow l l') (fHigh h h') x y := fun {l h l' h' x y} a b i j => by
    unfold fLow fHigh
    have := i.1
    have := i.2
    have := j.1
    have := j.2
    refine ⟨?_, ?_⟩
    · split <;> omega
    · split <;> omega
  exact ⟨A hb.1 hc.1 h1.1 h2.1, A hb.2.1 hc.2.1 h1.2.1 h2.2.1, A hb.2.2 hc.2.2 h1.2.2 h2.2.2⟩
theorem fold_least {e : Bx} : ∀ (l : List Bx) (a : Bx), okB a → (∀ b ∈ l, okB b) → inB a e → (∀ b ∈ l, inB b e) → inB (l.foldl bJoin a) e
  | [], _, _, _, h, _ => h
  | c :: l, a, ha, hl, h, hh => fold_least l _ (join_B ha (hl c (.head _))).1 (fun b hb => hl b (.tail _ hb)) (join_least ha (hl c (.head _)) h (hh c (.head _))) fun b hb => hh b (.tail _ hb)
theorem bxs_least {l : List Tr} {s : List Int} (hL : okL l) (hs : okS l s) (hne : s ≠ []) {e : Bx} (h : ∀ i ∈ s, inB (bOf (trA l i)) e) : inB (bxs l s) e := by
  cases s with
  | nil => exact absurd rfl hne
  | cons i s =>
    unfold bxs bAll
    have o : ∀ j ∈ i :: s, okB (bOf (trA l j)) := fun j hj => bOf_ok (trA_may hL (hs j hj))
    rw [List.map_cons, List.foldl_cons, join_none (o i (.head _))]
    exact fold_least _ _ (o i (.head _)) (fun b hb => by obtain ⟨j, hj, rfl⟩ := List.mem_map.1 hb; exact o j (.tail _ hj)) (h i (.head _)) (fun b hb => by obtain ⟨j, hj, rfl⟩ := List.mem_map.1 hb; exact h j (.tail _ hj))
theorem Is_both {b c : Bx} (hb : okB b) (hc : okB c) (h1 : inB b c) (h2 : inB c b) : ref04_Is (b, c) = some true := by
  have A : ∀ {a b : Fl}, okK a → okK b → kx a = kx b → (ford a b == some Ordering.eq || (ford a a != some Ordering.eq && ford b b != some Ordering.eq)) = true := fun {a b} ha hb h => by
    have := feq_kx ha hb
    unfold feq at this
    rw [this, decide_eq_true h]; rfl
  obtain ⟨⟨x1, x2⟩, ⟨y1, y2⟩, ⟨z1, z2⟩⟩ := h1
  obtain ⟨⟨u1, u2⟩, ⟨v1, v2⟩, ⟨w1, w2⟩⟩ := h2
  have i1 : ref02_Is (b.1, c.1) = some true := by
    unfold ref02_Is ref02_Is.t
    dsimp only
    rw [tr_yes (A hb.1.1 hc.1.1 (by omega)), tr_yes (A hb.2.1.1 hc.2.1.1 (by omega)), tr_ret, A hb.2.2.1 hc.2.2.1 (by omega)]
  have i2 : ref02_Is (b.2, c.2) = some true := by
    unfold ref02_Is ref02_Is.t
    dsimp only
    rw [tr_yes (A hb.1.2.1 hc.1.2.1 (by omega)), tr_yes (A hb.2.1.2.1 hc.2.1.2.1 (by omega)), tr_ret, A hb.2.2.2.1 hc.2.2.2.1 (by omega)]
  unfold ref04_Is ref04_Is.t
  dsimp only
  rw [tr_opt, i1, Option.bind_some, tr_yes rfl, tr_opt, i2, Option.bind_some, tr_ret]
theorem parts_Is {l : List Tr} {w : Bool} {s : List Int} (hL : okL l) (hs : okS l s) (h2 : 2 ≤ s.length) : ref04_Is (bJoin (bxs l (parted l w s).1) (bxs l (parted l w s).2), bxs l s) = some true := by
  obtain ⟨p1, p2, p3, p4, p5⟩ := parted_ok w hs h2
  have hne : s ≠ [] := fun e => by rw [e] at h2; simp at h2
  have hp := parted_perm l w s
  have m1 : ∀ i ∈ (parted l w s).1, i ∈ s := fun i hi => hp.mem_iff.1 (List.mem_append_left _ hi)
  have m2 : ∀ i ∈ (parted l w s).2, i ∈ s := fun i hi => hp.mem_iff.1 (List.mem_append_right _ hi)
  obtain ⟨a1, a2⟩ := bxs_ok hL p1 p3
  obtain ⟨b1, b2⟩ := bxs_ok hL p2 p4
  obtain ⟨c1, c2⟩ := bxs_ok hL hs hne
  obtain ⟨j1, j2, j3⟩ := join_B a1 b1
  refine Is_both j1 c1 (join_least a1 b1 (bxs_least hL p1 p3 fun i hi => c2 i (m1 i hi)) (bxs_least hL p2 p4 fun i hi => c2 i (m2 i hi))) (bxs_least hL hs hne fun i hi => ?_)
  rcases List.mem_append.1 (hp.mem_iff.2 hi) with h | h
  · exact inB_trans (a2 i h) j2
  · exact inB_trans (b2 i h) j3
end Go.Proofs.Pen

namespace Go.Proofs.Pen
open Go Go.Proofs

theorem drop_mem {α : Type} {N A B : List α} {k : Nat} (h : N.drop k = A ++ B) {j : Nat} (hj : j < A.length) : ∃ hk : k + j < N.length, N[k + j] = A[j] := by
  have h1 : (N.drop k)[j]? = some A[j] := by rw [h, List.getElem?_append_left hj, List.getElem?_eq_getElem hj]
  rw [List.getElem?_drop] at h1
  obtain ⟨hk, he⟩ := List.getElem?_eq_some_iff.1 h1
  exact ⟨hk, he⟩
theorem drop_len {α : Type} {N A B : List α} {k : Nat} (h : N.drop k = A ++ B) (hA : 0 < A.length) : k + A.length ≤ N.length := by
  have := congrArg List.length h
  rw [List.length_drop, List.length_append] at this
  omega
theorem pre_head (l : List Tr) (w : Bool) (d : Nat) (s : List Int) (n0 o0 : Nat) : ∃ nd tl, (pre l w (d + 1) s n0 o0).1 = nd :: tl ∧ nd.1 = bxs l s := by
  unfold pre
  split
  · exact ⟨_, _, rfl, rfl⟩
  · exact ⟨_, _, rfl, rfl⟩
theorem head_at {l : List Tr} {w : Bool} {d : Nat} {s : List Int} {n0 o0 : Nat} {N R : List Nd} {k : Nat} (h : N.drop k = (pre l w (d + 1) s n0 o0).1 ++ R) : ∃ nd, lget N (k : Int) = some nd ∧ nd.1 = bxs l s := by
  obtain ⟨nd, tl, e1, e2⟩ := pre_head l w d s n0 o0
  rw [e1] at h
  obtain ⟨hk, e3, _⟩ := drop_at h
  exact ⟨nd, by rw [lget_nat N hk, e3], e2⟩

theorem leaf_look (l : List Tr) (f : Bool) (T : List Nd × List Int) (O : List Int) (N : List Nd) (s : List Int) (seen o : Nat) (R : List Int) (hL : okL l) (hs : okS l s) (h4 : s.length ≤ 4) (hO : O.length < 900) (hd : O.drop o = insS lessI s ++ R) :
    law12_BvhSound.l4 (l, f, T, O, N, ((o + s.length : Nat) : Int), (seen : Int), (bxs l s, 0, 0, (o : Int), ((o + s.length : Nat) : Int)), (o : Int), ()) = some (.exit 4, l, f, T, O, N, ((o + s.length : Nat) : Int), (seen : Int), (bxs l s, 0, 0, (o : Int), ((o + s.length : Nat) : Int)), ((o + s.length : Nat) : Int), ()) := by
  have hlen : (insS lessI s).length = s.length := (insS_perm _ s).length_eq
  refine iter_count (t := law12_BvhSound.t4) (fun k => (l, f, T, O, N, ((o + s.length : Nat) : Int), (seen : Int), (bxs l s, 0, 0, (o : Int), ((o + s.length : Nat) : Int)), (k : Int), ())) (e := .exit 4) (by simp) s.length o rounds (fun k hk1 hk2 => ?_) ?_ (rounds_gt (by omega))
  · obtain ⟨hk, he⟩ := drop_mem hd (j := k - o) (by omega)
    have hko : o + (k - o) = k := by omega
    have hmem : O[o + (k - o)] ∈ s := by rw [he]; exact (insS_perm lessI s).mem_iff.1 (List.getElem_mem _)
    simp only [hko] at hk hmem
    have hne := List.ne_nil_of_mem hmem
    obtain ⟨b1, b2⟩ := bxs_ok hL hs hne
    unfold law12_BvhSound.t4
    dsimp only
    rw [tr_yes (by simp; omega), tr_opt, lget_nat O hk, Option.bind_some, tr_opt, lget_tr (hs _ hmem), Option.bind_some, tr_opt, ref04_Of_eq, Option.bind_some, tr_opt, ref04_Join_eq, Option.bind_some, join_in b1 (bOf_ok (trA_may hL (hs _ hmem))) (b2 _ hmem), tr_opt, ref04_Is_self, Option.bind_some, tr_no (by rfl), tr_ret, W_succ (by omega)]
  · unfold law12_BvhSound.t4
    rw [tr_no (by simp), tr_ret]
theorem sound_eq (l : List Tr) (w f : Bool) (T : List Nd × List Int) (O : List Int) (N : List Nd) (hL : okL l) (hN : N.length < 900) (hO : O.length < 900) : ∀ (d : Nat) (s : List Int) (seen o : Nat) (rest : List Nd) (rest2 : List Int) (m : Nat), okS l s → s.length ≤ d → N.drop seen = (pre l w (d + 1) s seen o).1 ++ rest → O.drop o = (pre l w (d + 1) s seen o).2 ++ rest2 → o ≤ O.length →
    (iterT law12_BvhSound.t2 (m + (pre l w (d + 1) s seen o).1.length) (l, f, T, O, N, (o : Int), (seen : Int), ())).run = (iterT law12_BvhSound.t2 m (l, f, T, O, N, ((o + s.length : Nat) : Int), ((seen + (pre l w (d + 1) s seen o).1.length : Nat) : Int), ())).run
  | d, s, seen, o, rest, rest2, m, hs, hd, hdr, hdo, hoo => by
    by_cases h4 : s.length ≤ 4
    · have hp : pre l w (d + 1) s seen o = ([(bxs l s, 0, 0, (o : Int), ((o + s.length : Nat) : Int))], insS lessI s) := by unfold pre; rw [if_pos h4]
      rw [hp] at hdr hdo ⊢
      have hlen : (insS lessI s).length = s.length := (insS_perm _ s).length_eq
      obtain ⟨hk, hnd, _⟩ := drop_at (A := []) hdr
      have hol : o + s.length ≤ O.length := by
        rcases Nat.eq_zero_or_pos s.length with h0 | h0
        · omega
        · have := drop_len (A := insS lessI s) hdo (by omega); omega
      refine (iter_step (e := .normal) (y := (l, f, T, O, N, ((o + s.length : Nat) : Int), ((seen + 1 : Nat) : Int), ())) ?_).trans rfl
      unfold law12_BvhSound.t2
      dsimp only
      rw [tr_yes (by simp; omega), tr_opt, lget_nat N hk, Option.bind_some, hnd]
      dsimp only
      rw [tr_yes (by rfl), tr_no (by rw [W_id (by omega) (by omega)]; simp; omega), tr_opt]
      refine bind_of (leaf_look l f T O N s seen o rest2 hL hs h4 hO hdo) ?_
      rw [tr_yes (by rfl), tr_ret, W_succ (by omega)]
    · cases d with
      | zero => omega
      | succ d =>
        obtain ⟨p1, p2, p3, p4, p5⟩ := parted_ok w hs (by omega)
        have q3 := List.length_pos_iff.2 p3
        have q4 := List.length_pos_iff.2 p4
        obtain ⟨a1, a2, _, _⟩ := pre_size l w d (parted l w s).1 (seen + 1) o p1 (by omega)
        obtain ⟨b1, b2, _, _⟩ := pre_size l w d (parted l w s).2 (seen + 1 + (pre l w (d + 1) (parted l w s).1 (seen + 1) o).1.length) (o + (pre l w (d + 1) (parted l w s).1 (seen + 1) o).2.length) p2 (by omega)
        have hp : pre l w (d + 1 + 1) s seen o = ((bxs l s, ((seen + 1 : Nat) : Int), ((seen + 1 + (pre l w (d + 1) (parted l w s).1 (seen + 1) o).1.length : Nat) : Int), 0, 0) :: ((pre l w (d + 1) (parted l w s).1 (seen + 1) o).1 ++ (pre l w (d + 1) (parted l w s).2 (seen + 1 + (pre l w (d + 1) (parted l w s).1 (seen + 1) o).1.length) (o + (pre l w (d + 1) (parted l w s).1 (seen + 1) o).2.length)).1), (pre l w (d + 1) (parted l w s).1 (seen + 1) o).2 ++ (pre l w (d + 1) (parted l w s).2 (seen + 1 + (pre l w (d + 1) (parted l w s).1 (seen + 1) o).1.length) (o + (pre l w (d + 1) (parted l w s).1 (seen + 1) o).2.length)).2) := by
          show (if s.length ≤ 4 then _ else _) = _
          rw [if_neg h4]
        rw [hp] at hdr hdo ⊢
        have i1 := fun m => sound_eq l w f T O N hL hN hO d (parted l w s).1 (seen + 1) o ((pre l w (d + 1) (parted l w s).2 (seen + 1 + (pre l w (d + 1) (parted l w s).1 (seen + 1) o).1.length) (o + (pre l w (d + 1) (parted l w s).1 (seen + 1) o).2.length)).1 ++ rest) ((pre l w (d + 1) (parted l w s).2 (seen + 1 + (pre l w (d + 1) (parted l w s).1 (seen + 1) o).1.length) (o + (pre l w (d + 1) (parted l w s).1 (seen + 1) o).2.length)).2 ++ rest2) m p1 (by omega)
        have i2 := fun m => sound_eq l w f T O N hL hN hO d (parted l w s).2 (seen + 1 + (pre l w (d + 1) (parted l w s).1 (seen + 1) o).1.length) (o + (pre l w (d + 1) (parted l w s).1 (seen + 1) o).2.length) rest rest2 m p2 (by omega)
        have hh1 := fun R k (h : N.drop k = _ ++ R) => head_at (l := l) (w := w) (d := d) (s := (parted l w s).1) (n0 := seen + 1) (o0 := o) h
        have hh2 := fun R k (h : N.drop k = _ ++ R) => head_at (l := l) (w := w) (d := d) (s := (parted l w s).2) (n0 := seen + 1 + (pre l w (d + 1) (parted l w s).1 (seen + 1) o).1.length) (o0 := o + (pre l w (d + 1) (parted l w s).1 (seen + 1) o).2.length) h
        generalize pre l w (d + 1) (parted l w s).2 (seen + 1 + (pre l w (d + 1) (parted l w s).1 (seen + 1) o).1.length) (o + (pre l w (d + 1) (parted l w s).1 (seen + 1) o).2.length) = Y at *
        generalize pre l w (d + 1) (parted l w s).1 (seen + 1) o = X at *
        obtain ⟨hk, hnd, hdr1⟩ := drop_at (A := X.1 ++ Y.1) hdr
        rw [List.append_assoc] at hdr1 hdo
        have hdr2 := drop_more hdr1
        have hdo2 := drop_more hdo
        have hnl := drop_len hdr2 (by omega)
        have hol := drop_len hdo (by omega)
        obtain ⟨n1, g1, g2⟩ := hh1 _ _ hdr1
        obtain ⟨n2, g3, g4⟩ := hh2 _ _ hdr2
        have e1 : m + ((bxs l s, ((seen + 1 : Nat) : Int), ((seen + 1 + X.1.length : Nat) : Int), (0 : Int), (0 : Int)) :: (X.1 ++ Y.1)).length = m + Y.1.length + X.1.length + 1 := by simp; omega
        have e2 : seen + ((bxs l s, ((seen + 1 : Nat) : Int), ((seen + 1 + X.1.length : Nat) : Int), (0 : Int), (0 : Int)) :: (X.1 ++ Y.1)).length = seen + 1 + X.1.length + Y.1.length := by simp; omega
        rw [e1, e2]
        have hs1 : (law12_BvhSound.t2 (l, f, T, O, N, (o : Int), (seen : Int), ())).run = some (.normal, l, f, T, O, N, (o : Int), ((seen + 1 : Nat) : Int), ()) := by
          unfold law12_BvhSound.t2
          dsimp only
          rw [tr_yes (by simp; omega), tr_opt, lget_nat N hk, Option.bind_some, hnd]
          dsimp only
          rw [tr_no (by simp; omega), W_succ (by omega), tr_no (by simp; omega), tr_opt, g1, Option.bind_some, tr_opt, g3, Option.bind_some, tr_opt, ref04_Join_eq, Option.bind_some, g2, g4, tr_opt, parts_Is hL hs (by omega), Option.bind_some, tr_no (by rfl), tr_ret]
        refine (iter_step hs1).trans ?_
        refine (i1 (m + Y.1.length) hdr1 hdo hoo).trans ?_
        have i2 := i2 m hdr2 hdo2 (by omega)
        rw [a1] at i2
        rw [show o + s.length = o + (parted l w s).1.length + (parted l w s).2.length by omega]
        exact i2

theorem deep_eq (l : List Tr) (w : Bool) (O : List Int) (N : List Nd) (hN : N.length < 900) : ∀ (d : Nat) (s : List Int) (seen o : Nat) (rest : List Nd), okS l s → s.length ≤ d → N.drop seen = (pre l w (d + 1) s seen o).1 ++ rest → ∃ k : Int, bvh_Tree_deep.h (d + 1) ((N, O), (seen : Int)) = some k ∧ 1 ≤ k ∧ k ≤ (pre l w (d + 1) s seen o).1.length
  | d, s, seen, o, rest, hs, hd, hdr => by
    have node : ∀ {k : Nat} (hk : k < N.length), bvh_Tree_Node ((N, O), (k : Int)) = some (N[k], true) := fun {k} hk => by
      unfold bvh_Tree_Node bvh_Tree_Node.t
      dsimp only
      rw [tr_no (by simp), tr_no (by simp; omega), tr_opt, lget_nat N hk, Option.bind_some, tr_ret]
    show ∃ k, (bvh_Tree_deep.t (bvh_Tree_deep.h d) _).run = some k ∧ _
    unfold bvh_Tree_deep.t
    by_cases h4 : s.length ≤ 4
    · have hp : pre l w (d + 1) s seen o = ([(bxs l s, 0, 0, (o : Int), ((o + s.length : Nat) : Int))], insS lessI s) := by unfold pre; rw [if_pos h4]
      rw [hp] at hdr ⊢
      obtain ⟨hk, hnd, _⟩ := drop_at (A := []) hdr
      refine ⟨1, ?_, by omega, by simp⟩
      rw [tr_opt, node hk, Option.bind_some, tr_no (by rfl), hnd, tr_yes (by rfl), tr_ret]
    · cases d with
      | zero => omega
      | succ d =>
        obtain ⟨p1, p2, p3, p4, p5⟩ := parted_ok w hs (by omega)
        have q3 := List.length_pos_iff.2 p3
        have q4 := List.length_pos_iff.2 p4
        have hp : pre l w (d + 1 + 1) s seen o = ((bxs l s, ((seen + 1 : Nat) : Int), ((seen + 1 + (pre l w (d + 1) (parted l w s).1 (seen + 1) o).1.length : Nat) : Int), 0, 0) :: ((pre l w (d + 1) (parted l w s).1 (seen + 1) o).1 ++ (pre l w (d + 1) (parted l w s).2 (seen + 1 + (pre l w (d + 1) (parted l w s).1 (seen + 1) o).1.length) (o + (pre l w (d + 1) (parted l w s).1 (seen + 1) o).2.length)).1), (pre l w (d + 1) (parted l w s).1 (seen + 1) o).2 ++ (pre l w (d + 1) (parted l w s).2 (seen + 1 + (pre l w (d + 1) (parted l w s).1 (seen + 1) o).1.length) (o + (pre l w (d + 1) (parted l w s).1 (seen + 1) o).2.length)).2) := by
          show (if s.length ≤ 4 then _ else _) = _
          rw [if_neg h4]
        rw [hp] at hdr ⊢
        obtain ⟨hk, hnd, hdr1⟩ := drop_at (A := _ ++ _) hdr
        rw [List.append_assoc] at hdr1
        have hdr2 := drop_more hdr1
        obtain ⟨k1, x1, x2, x3⟩ := deep_eq l w O N hN d (parted l w s).1 (seen + 1) o _ p1 (by omega) hdr1
        obtain ⟨k2, y1, y2, y3⟩ := deep_eq l w O N hN d (parted l w s).2 _ _ _ p2 (by omega) hdr2
        have hl1 := drop_len hdr1 (by omega)
        have hl2 := drop_len hdr2 (by omega)
        refine ⟨1 + if k2 > k1 then k2 else k1, ?_, ?_, ?_⟩
        · rw [tr_opt, node hk, Option.bind_some, tr_no (by rfl), hnd, tr_no (by simp; omega), tr_opt, x1, Option.bind_some, tr_opt, y1, Option.bind_some, tr_ret, W_id (by split <;> omega) (by split <;> omega)]
        · split <;> omega
        · simp only [List.length_cons, List.length_append]; split <;> omega
end Go.Proofs.Pen

namespace Go.Proofs.Pen
open Go Go.Proofs

theorem few_eq (l : List Tr) : law12_few (l, 200) = some (l.take 200) := by
  unfold law12_few law12_few.t
  dsimp only
  rw [tr_ite]
  by_cases h : 200 < l.length
  · rw [if_pos (by simp; omega), tr_yes (by simp; omega), tr_ret]; rfl
  · rw [if_neg (by simp; omega), tr_ret, List.take_of_length_le (by omega)]
theorem scan_may (l : List Tr) (w : Bool) (hl : l.length < 900) : (l.all tMay = true ∧ law12_BvhSound.l0 (l, w, false, 0, ()) = some (.exit 0, l, w, false, (l.length : Int), ())) ∨ (l.all tMay = false ∧ ∃ i : Nat, law12_BvhSound.l0 (l, w, false, 0, ()) = some (.ret, l, w, true, (i : Int), ())) := by
  have h := iter_scan (t := law12_BvhSound.t0) l tMay (fun k => (l, w, false, (k : Int), ())) (fun k => (l, w, true, (k : Int), ())) (l, w, false, (l.length : Int), ()) .ret (.exit 0) (fun k hk => by
    unfold law12_BvhSound.t0
    dsimp only
    rw [tr_yes (by simp; omega), tr_opt, lget_nat l hk, Option.bind_some, tr_opt, ref12_May_eq, Option.bind_some, W_succ (by omega)]
    cases tMay l[k] with
    | false => rw [tr_yes (by rfl), tr_ret]; rfl
    | true => rw [tr_no (by rfl), tr_ret]; rfl) (by
    unfold law12_BvhSound.t0
    rw [tr_no (by simp), tr_ret]) (by simp) (by simp) (m := rounds) (rounds_gt (by omega))
  exact h
theorem Ints_self (a : List Int) (h : a.length < 900) : ref01_Ints (a, a) = some true := by
  unfold ref01_Ints ref01_Ints.t
  dsimp only
  rw [tr_no (by simp), tr_opt]
  have hr := iter_count (t := ref01_Ints.t0) (fun k => (a, a, false, (k : Int), ())) (e := .exit 0) (z := (a, a, false, (a.length : Int), ())) (by simp) a.length 0 rounds (fun k _ hk => by
    have hk : k < a.length := by omega
    unfold ref01_Ints.t0
    dsimp only
    rw [tr_yes (by simp; omega), tr_opt, lget_nat a hk, Option.bind_some, tr_opt, Option.bind_some, tr_no (by simp), tr_ret, W_succ (by omega)]) (by
    unfold ref01_Ints.t0
    rw [tr_no (by simp), tr_ret, Nat.zero_add]) (rounds_gt (by omega))
  refine bind_of hr ?_
  rw [tr_yes (by rfl), tr_ret]
theorem Sound_core (l : List Tr) (w : Bool) (hL : okL l) (hl : l.length ≤ 200) (N : List Nd) (O : List Int) (hT : treeOf l w = (N, O)) :
    O.Perm (nums l.length) ∧ O.length = l.length ∧ N.length < 900 ∧ (∃ nd, lget N 0 = some nd ∧ selfB nd.1) ∧ law12_BvhSound.l2 (l, false, (N, O), O, N, 0, 0, ()) = some (.exit 2, l, false, (N, O), O, N, (l.length : Int), (N.length : Int), ()) ∧ ∃ k : Int, bvh_Tree_Depth (N, O) = some k ∧ 1 ≤ k ∧ k ≤ (N.length : Int) := by
  have hpre : pre l w (999 + 1) (nums l.length) 0 0 = (N, O) := hT
  have hok := nums_ok l
  have hlen := nums_len l.length
  have hsz := pre_size l w 999 (nums l.length) 0 0 hok (by omega)
  have hpm := pre_perm l w 999 (nums l.length) 0 0 hok (by omega)
  have hdp := fun hN => deep_eq l w O N hN 999 (nums l.length) 0 0 [] hok (by omega) (by rw [hpre, List.append_nil]; rfl)
  have hhd := head_at (l := l) (w := w) (d := 999) (s := nums l.length) (n0 := 0) (o0 := 0) (N := N) (R := []) (k := 0) (by rw [hpre, List.append_nil]; rfl)
  have hsd := fun hN hO m => sound_eq l w false (N, O) O N hL hN hO 999 (nums l.length) 0 0 [] [] m hok (by omega) (by rw [hpre, List.append_nil]; rfl) (by rw [hpre, List.append_nil]; rfl) (Nat.zero_le _)
  rw [hpre] at hsz hpm hdp hsd
  dsimp only at hsz hpm hdp hsd
  rw [hlen] at hsz hsd
  obtain ⟨z1, z2, z3, z4⟩ := hsz
  obtain ⟨nd, g1, g2⟩ := hhd
  obtain ⟨k, d1, d2, d3⟩ := hdp (by omega)
  refine ⟨hpm, z1, by omega, ⟨nd, g1, ?_⟩, ?_, k, ?_, d2, d3⟩
  · rw [g2]; exact bxs_self hL hok
  · obtain ⟨r, hr⟩ : ∃ r, rounds = r + 1 + N.length := ⟨rounds - 1 - N.length, by have := rounds_gt (n := 2000) (by omega); omega⟩
    have h := hsd (by omega) (by omega) (r + 1)
    rw [Nat.zero_add, Nat.zero_add] at h
    show (iterT law12_BvhSound.t2 rounds _).run = _
    rw [hr]
    refine h.trans ?_
    rw [iter_step (e := .exit 2) (by unfold law12_BvhSound.t2; rw [tr_no (by simp), tr_ret])]
  · unfold bvh_Tree_Depth bvh_Tree_Depth.t
    rw [tr_opt]
    refine bind_of (show bvh_Tree_deep _ = some k from d1) ?_
    rw [tr_ret]
theorem BvhSound_law : ∀ x, law12_BvhSound x = some true := fun ⟨l0, w⟩ => by
  unfold law12_BvhSound law12_BvhSound.t
  dsimp only
  rw [tr_opt, few_eq, Option.bind_some]
  have hl : (l0.take 200).length ≤ 200 := List.length_take_le _ _
  generalize l0.take 200 = l at hl
  rw [tr_opt]
  rcases scan_may l w (by omega) with ⟨hm, h1⟩ | ⟨hm, i, h1⟩
  · refine bind_of h1 ?_
    have hL : okL l := hm
    have hcore := fun N O => Sound_core l w hL hl N O
    rw [tr_yes (by rfl), tr_opt, New_ok l w (by omega) hL, Option.bind_some]
    generalize treeOf l w = T at hcore
    obtain ⟨N, O⟩ := T
    obtain ⟨c1, c2, c3, ⟨nd, g1, g2⟩, c4, k, c5, c6, c7⟩ := hcore N O rfl
    dsimp only
    have hnod : bvh_Tree_Nodes (N, O) = some N := by
      unfold bvh_Tree_Nodes bvh_Tree_Nodes.t
      dsimp only
      rw [tr_yes (by unfold most; simp; omega), tr_ret, List.take_length]
    have hord : bvh_Tree_Order (N, O) = some O := by
      unfold bvh_Tree_Order bvh_Tree_Order.t
      dsimp only
      rw [tr_yes (by unfold most; simp; omega), tr_ret, List.take_length]
    have hroot : bvh_Tree_Root (N, O) = some (nd, true) := by
      unfold bvh_Tree_Root bvh_Tree_Root.t bvh_Tree_Node bvh_Tree_Node.t
      dsimp only
      have : 0 < N.length := by
        unfold lget at g1
        rw [if_neg (by omega)] at g1
        have := (List.getElem?_eq_some_iff.1 g1).1
        omega
      rw [tr_opt, tr_no (by rfl), tr_no (decide_eq_false (show ¬ (0 : Int) ≥ (N.length : Int) by omega)), tr_opt, g1, Option.bind_some, tr_ret, Option.bind_some, tr_ret]
    obtain ⟨b1, b2, b3, b4, b5, b6⟩ := g2
    rw [tr_no (by rfl), tr_opt, Option.bind_some, tr_no (by rfl), tr_opt, hord, Option.bind_some, tr_opt, rise_eq O (by omega), Option.bind_some, rise_nums c1, tr_opt, all_eq l.length (by omega), Option.bind_some, tr_opt, Ints_self _ (by rw [nums_len]; omega), Option.bind_some, tr_no (by rfl), tr_opt, hnod, Option.bind_some, tr_opt]
    refine bind_of c4 ?_
    rw [tr_yes (by rfl), tr_opt, hroot, Option.bind_some, tr_yes (by simp), tr_opt, g1, Option.bind_some, tr_yes (by rw [b1, b2, b3, b4, b5, b6]; simp), tr_opt, c5, Option.bind_some, tr_yes (by simp; omega), tr_opt, Option.bind_some, tr_ret]
    have c6 : 1 ≤ k := c6
    rw [decide_eq_true (show k ≥ 1 from c6)]
  · refine bind_of h1 ?_
    rw [tr_no (by rfl), tr_yes (by rfl), tr_ret]
theorem BvhSound_all (x : dens [(.sl (.st (.pair TV (.pair TV TV)))), .bool]) (_ : insAll [(.sl (.st (.pair TV (.pair TV TV)))), .bool] x) : (law12_BvhSound.t x).run = some true := BvhSound_law x
end Go.Proofs.Pen
