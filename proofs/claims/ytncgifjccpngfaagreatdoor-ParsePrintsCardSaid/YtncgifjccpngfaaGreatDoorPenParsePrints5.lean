/- A part of the proof that the law ParsePrints is true of every input: models of the functions that the law reaches, and what holds of them. -/
import Derived.Test.YtncgifjccpngfaaGreatDoorPenKit0
import Derived.Test.YtncgifjccpngfaaGreatDoorPenKit1
import Derived.Test.YtncgifjccpngfaaGreatDoorPenKit2
import Derived.Test.YtncgifjccpngfaaGreatDoorPenKit3
import Derived.Test.YtncgifjccpngfaaGreatDoorPenParsePrints4
namespace Go.Proofs.Pen
open Go Go.Proofs

def sp : List UInt8 → List UInt8 → List (List UInt8)
  | [], cur => [cur]
  | b :: l, cur => if b = 10 then cur :: sp l [] else sp l (cur ++ [b])
theorem sp_none : ∀ {l cur : List UInt8}, 10 ∉ l → sp l cur = [cur ++ l]
  | [], cur, _ => by simp [sp]
  | b :: l, cur, h => by
    simp only [List.mem_cons, not_or] at h
    rw [sp, if_neg (fun e => h.1 e.symm), sp_none h.2]
    simp
theorem sp_first : ∀ {a b cur : List UInt8}, 10 ∉ a → sp (a ++ 10 :: b) cur = (cur ++ a) :: sp b []
  | [], b, cur, _ => by simp [sp]
  | x :: a, b, cur, h => by
    simp only [List.mem_cons, not_or] at h
    rw [List.cons_append, sp, if_neg (fun e => h.1 e.symm), sp_first h.2]
    simp

theorem index_eq (l : List UInt8) (c : UInt8) : strings_Index (B l, B [c]) = some (Lib.indexByte l c) := by
  unfold strings_Index strings_Index.t
  dsimp only
  rw [tr_yes (by rw [B_size]; rfl), tr_ret, byteH_one, indexB_B]

theorem gen_loop : ∀ (c : Nat) (l : List UInt8) (done : List ByteArray) (m : Nat), l.count 10 = c → l.length ≤ 60000 → done.length + c ≤ 60000 → c < m →
    ∃ ds last, (iterT strings_genSplit.t0 m (B l, B [10], (0 : Int), ((done.length + c : Nat) : Int), done ++ List.replicate (c + 1) (B []), (done.length : Int), ())).run =
      some (.exit 0, B last, B [10], (0 : Int), ((done.length + c : Nat) : Int), done ++ ds.map B ++ [B []], ((done.length + c : Nat) : Int), ()) ∧ ds.length = c ∧ sp l [] = ds ++ [last]
  | c, l, done, 0, _, _, _, hm => absurd hm (Nat.not_lt_zero _)
  | 0, l, done, m + 1, hc, hl, hd, hm => by
    have hn : (10 : UInt8) ∉ l := List.count_eq_zero.1 hc
    have e : (strings_genSplit.t0 (B l, B [10], (0 : Int), ((done.length + 0 : Nat) : Int), done ++ List.replicate (0 + 1) (B []), (done.length : Int), ())).run = some (.exit 0, B l, B [10], (0 : Int), ((done.length + 0 : Nat) : Int), done ++ List.replicate (0 + 1) (B []), (done.length : Int), ()) := by
      unfold strings_genSplit.t0
      dsimp only
      rw [tr_no (by rw [decide_eq_false_iff_not]; omega), tr_ret, List.take_length]
    refine ⟨[], l, ?_, rfl, by rw [sp_none hn]; rfl⟩
    rw [iter_step e]
    simp
  | c + 1, l, done, m + 1, hc, hl, hd, hm => by
    rcases first_of 10 l with h | ⟨a, b, rfl, h⟩
    · rw [List.count_eq_zero.2 h] at hc; omega
    · have hlen : a.length + b.length + 1 ≤ 60000 := by simp at hl; omega
      have hcb : b.count 10 = c := by
        rw [List.count_append, List.count_eq_zero.2 h, List.count_cons_self] at hc; omega
      have hrow : (done ++ List.replicate (c + 1 + 1) (B [])).length = done.length + c + 2 := by simp; omega
      have hget : (done ++ List.replicate (c + 1 + 1) (B []))[done.length]? = some (B []) := by
        rw [List.getElem?_append_right (Nat.le_refl _), Nat.sub_self, List.replicate_succ]; rfl
      have hset : (done ++ List.replicate (c + 1 + 1) (B [])).set done.length (B a) = (done ++ [B a]) ++ List.replicate (c + 1) (B []) := by
        rw [List.set_append_right _ _ (Nat.le_refl _), Nat.sub_self, List.replicate_succ, List.set_cons_zero]; simp
      have hs1 : (B (a ++ 10 :: b)).size = a.length + b.length + 1 := by rw [B_size]; simp; omega
      have hW0 : W ((a.length : Int) + 0) = (a.length : Int) := by rw [W_id (by omega) (by omega)]; omega
      have hW1 : W ((a.length : Int) + ((B [10]).size : Int)) = ((a.length + 1 : Nat) : Int) := by rw [B_size, List.length_singleton, W_id (by omega) (by omega)]; omega
      have hW2 : W ((done.length : Int) + 1) = (((done ++ [B a]).length : Nat) : Int) := by rw [W_id (by omega) (by omega)]; simp
      have hx1 : ByteArray.extract (B (a ++ 10 :: b)) (((a.length + 1 : Nat) : Int)).toNat ((a.length + b.length + 1 : Nat) : Int).toNat = B b := by
        rw [B_extract, Int.toNat_natCast, Int.toNat_natCast, List.take_of_length_le (by simp; omega), show a ++ 10 :: b = (a ++ [10]) ++ b by simp, List.drop_left' (by simp)]
      have hx2 : ByteArray.extract (B (a ++ 10 :: b)) (Int.toNat 0) ((a.length : Int)).toNat = B a := by
        rw [B_extract, Int.toNat_natCast]; simp
      have e : (strings_genSplit.t0 (B (a ++ 10 :: b), B [10], (0 : Int), ((done.length + (c + 1) : Nat) : Int), done ++ List.replicate (c + 1 + 1) (B []), (done.length : Int), ())).run =
          some (.normal, B b, B [10], (0 : Int), (((done ++ [B a]).length + c : Nat) : Int), (done ++ [B a]) ++ List.replicate (c + 1) (B []), (((done ++ [B a]).length : Nat) : Int), ()) := by
        unfold strings_genSplit.t0
        dsimp only
        rw [tr_yes (by rw [decide_eq_true_eq]; omega), index_eq, index_first h, tr_opt, Option.bind_some, tr_no (by rw [decide_eq_false_iff_not]; omega), hW0, hW1, hs1,
          tr_yes (by simp only [Bool.and_eq_true, decide_eq_true_eq]; omega), hrow, tr_yes (by simp only [Bool.and_eq_true, decide_eq_true_eq]; omega), Int.toNat_natCast, Nat.zero_add, hget, tr_opt, Option.bind_some,
          tr_yes (by simp only [Bool.and_eq_true, decide_eq_true_eq]; omega), tr_ret, hx1, hW2, hx2, hset]
        have e1 : done.length + (c + 1) = (done ++ [B a]).length + c := by simp; omega
        rw [List.take_of_length_le (by simp; omega), e1]
      obtain ⟨ds, last, h1, h2, h3⟩ := gen_loop c b (done ++ [B a]) m hcb (by omega) (by simp; omega) (by omega)
      refine ⟨a :: ds, last, ?_, by simp [h2], by rw [sp_first h, h3]; rfl⟩
      rw [iter_step e]
      show (iterT strings_genSplit.t0 m _).run = _
      rw [h1]
      have e1 : done.length + (c + 1) = (done ++ [B a]).length + c := by simp; omega
      rw [e1]
      simp

theorem gen_eq (l : List UInt8) (h : l.length ≤ 60000) : strings_Split (B l, B [10]) = some ((sp l []).map B) := by
  have hk : l.count 10 ≤ l.length := List.count_le_length
  obtain ⟨ds, last, e1, e2, e3⟩ := gen_loop (l.count 10) l [] rounds rfl h (by simp; omega) (rounds_gt (by omega))
  have hn : (if W ((↑(ByteArray.size (B l)) : Int) + (1 : Int)) < W (countB (B l) (byteH (B [10])) + (1 : Int)) then W ((↑(ByteArray.size (B l)) : Int) + (1 : Int)) else W (countB (B l) (byteH (B [10])) + (1 : Int))) = ((l.count 10 + 1 : Nat) : Int) := by
    have hcb : countB (B l) (byteH (B [10])) = ((l.count 10 : Nat) : Int) := by
      unfold countB Lib.countByte
      rw [B_data]; rfl
    rw [hcb, B_size, W_id (by omega) (by omega), W_id (by omega) (by omega)]
    split <;> omega
  have hg : strings_genSplit (B l, B [10], 0, -1) = some ((sp l []).map B) := by
    unfold strings_genSplit strings_genSplit.t
    dsimp only
    rw [tr_no (b := ((-1 : Int) == 0)) rfl, tr_no (by rw [nil_B, B_toList, B_toList]; rfl), tr_yes (b := decide ((-1 : Int) < 0)) rfl, tr_yes (by rw [B_size]; rfl), hn]
    have hmost : (decide ((0 : Int) ≤ ((l.count 10 + 1 : Nat) : Int)) && decide (((l.count 10 + 1 : Nat) : Int) ≤ ((l.count 10 + 1 : Nat) : Int)) && decide (((l.count 10 + 1 : Nat) : Int) * (↑(nat_lit 16) : Int) ≤ (↑most : Int)) && decide (((l.count 10 + 1 : Nat) : Int) ≤ (↑most : Int))) = true := by
      have e : (60001 : Int) * 16 ≤ (most : Int) := by unfold most; omega
      simp only [Bool.and_eq_true, decide_eq_true_eq]
      have e16 : ((nat_lit 16 : Nat) : Int) = 16 := rfl
      rw [e16]
      omega
    have hW : W (((l.count 10 + 1 : Nat) : Int) - 1) = ((([] : List ByteArray).length + l.count 10 : Nat) : Int) := by rw [W_id (by omega) (by omega)]; simp
    have hrep : List.take (((l.count 10 + 1 : Nat) : Int)).toNat (List.replicate (((l.count 10 + 1 : Nat) : Int)).toNat (ByteArray.mk #[])) = [] ++ List.replicate (l.count 10 + 1) (B []) := by
      rw [Int.toNat_natCast, List.take_of_length_le (by simp), List.nil_append]; rfl
    rw [tr_yes hmost, hW, hrep, tr_opt]
    unfold strings_genSplit.l0
    have e1' : (iterT strings_genSplit.t0 rounds (B l, B [10], (0 : Int), ((([] : List ByteArray).length + l.count 10 : Nat) : Int), [] ++ List.replicate (l.count 10 + 1) (B []), (0 : Int), ())).run = _ := e1
    rw [e1', Option.bind_some]
    dsimp only
    have hrow : ([] ++ ds.map B ++ [B []] : List ByteArray).length = l.count 10 + 1 := by simp [e2]
    have hi : ([] : List ByteArray).length + l.count 10 = l.count 10 := by simp
    have hW2 : W (((l.count 10 : Nat) : Int) + 1) = ((l.count 10 + 1 : Nat) : Int) := by rw [W_id (by omega) (by omega)]; omega
    have hget : ([] ++ ds.map B ++ [B []] : List ByteArray)[l.count 10]? = some (B []) := by
      rw [List.nil_append, List.getElem?_append_right (by simp [e2]), List.length_map, e2, Nat.sub_self]; rfl
    have hset : ([] ++ ds.map B ++ [B []] : List ByteArray).set (l.count 10) (B last) = (sp l []).map B := by
      rw [List.nil_append, List.set_append_right _ _ (by simp [e2]), List.length_map, e2, Nat.sub_self, e3]
      simp
    rw [tr_yes (by decide), hrow, hi, tr_yes (by simp only [Bool.and_eq_true, decide_eq_true_eq]; omega), Int.toNat_natCast, Nat.zero_add, hget, tr_opt, Option.bind_some, hW2,
      tr_yes (by simp only [Bool.and_eq_true, decide_eq_true_eq]; omega), tr_ret, hset]
    have hlen : ((sp l []).map B).length = l.count 10 + 1 := by rw [e3]; simp [e2]
    have e0 : Int.toNat 0 = 0 := rfl
    rw [Int.toNat_natCast, e0, List.drop_zero, List.take_of_length_le (by omega)]
  unfold strings_Split strings_Split.t
  dsimp only
  rw [hg, tr_opt, Option.bind_some, tr_ret]

end Go.Proofs.Pen

namespace Go.Proofs.Pen
open Go Go.Proofs
def lex_Lines.L0 : List (Nat × Lay) := [(3, .row (.st (.pair TI (.sl .str)))), (4, .val TI), (9, .val (.sl .str)), (10, .val TI), (11, .val TI)]
noncomputable def lex_Lines.t0 (x : List (Int × List (ByteArray)) × Int × (List (ByteArray)) × Int × Int × Unit) : T (Ex × List (Int × List (ByteArray)) × Int × (List (ByteArray)) × Int × Int × Unit) := T.ite (decide (x.2.2.2.2.1 < x.2.2.2.1)) (T.opt (lget x.2.2.1 x.2.2.2.2.1) fun y => T.opt (lex_Words y) fun y => T.ite ((↑y.length : Int) == (0 : Int)) (T.ret (Ex.normal, List.take x.1.length x.1, W (x.2.1 + (1 : Int)), x.2.2.1, x.2.2.2.1, W (x.2.2.2.2.1 + (1 : Int)), ())) (T.ite (decide ((x.1.length + (1 : Nat)) * nat_lit 32 ≤ most)) (T.ret (Ex.normal, List.take (x.1.length + (1 : Nat)) (List.take x.1.length x.1 ++ [(W (x.2.1 + (1 : Int)), y)]), W (x.2.1 + (1 : Int)), x.2.2.1, x.2.2.2.1, W (x.2.2.2.2.1 + (1 : Int)), ())) T.fail)) (T.ret (Ex.exit (0 : Nat), List.take x.1.length x.1, x.2.1, x.2.2.1, x.2.2.2.1, x.2.2.2.2.1, ()))
noncomputable def lex_Lines.l0 (x : List (Int × List (ByteArray)) × Int × (List (ByteArray)) × Int × Int × Unit) : Option (Ex × List (Int × List (ByteArray)) × Int × (List (ByteArray)) × Int × Int × Unit) := (iterT lex_Lines.t0 rounds x).run
theorem lex_Lines.k0 : bodies 0 (lp Tryz.f31 []) = [.loop (loopIn 0 (lp Tryz.f31 []))] ∧ WP Tryz.prog 0 (.block 0 (.loop (loopIn 0 (lp Tryz.f31 [])))) (loopS lex_Lines.L0 30 0 [.exit 0] lex_Lines.l0) :=
  loop_tree (L := lex_Lines.L0) (F := ({ quiet := (ext (ext Xs 49 strings_Split.q) 50 lex_Words.q), deep := noDeep } : Fns)) (D := D0) (tab := []) (t := lex_Lines.t0) mixed (quiet_ext (quiet_ext Xok strings_Split.ok) lex_Words.ok) (deep_none _) (fun _ => rfl) (by kernel_rfl) (by kernel_rfl) trivial (fun x => by kernel_rfl)
noncomputable def lex_Lines.t (x : ByteArray) : T ((List (Int × List (ByteArray)))) := T.opt (strings_Split (x, (ByteArray.mk #[10]))) fun y => T.opt (lex_Lines.l0 ([], (0 : Int), y, (↑y.length : Int), (0 : Int), ())) fun y => T.ite (exEq y.1 (Ex.exit (0 : Nat))) (T.ret (List.take y.2.1.length y.2.1)) T.fail
noncomputable def lex_Lines (x : ByteArray) : Option ((List (Int × List (ByteArray)))) := (lex_Lines.t x).run
noncomputable def lex_Lines.q : List AV → T AV := entry [.str] (outR [(.sl (.st (.pair TI (.sl .str))))]) fun x => .opt (lex_Lines x) .ret
theorem lex_Lines.ok : FnOK Tryz.prog 31 lex_Lines.q :=
  entry_call (ps := [.str]) (rs := [(.sl (.st (.pair TI (.sl .str))))]) (F := ({ quiet := (ext (ext Xs 49 strings_Split.q) 50 lex_Words.q), deep := noDeep } : Fns)) (D := D0) (S := tabS [(0, loopS lex_Lines.L0 30 0 [.exit 0] lex_Lines.l0)]) (t := lex_Lines.t) mixed (quiet_ext (quiet_ext Xok strings_Split.ok) lex_Words.ok) (deep_none _) Tryz.func31 (by kernel_rfl) (sok_fn ⟨lex_Lines.k0, trivial⟩) (by kernel_rfl) (fun x => by kernel_rfl)
end Go.Proofs.Pen

namespace Go.Proofs.Pen
open Go Go.Proofs

theorem sp_len : ∀ (l cur : List UInt8), (sp l cur).length ≤ l.length + 1
  | [], _ => by simp [sp]
  | b :: l, cur => by
    rw [sp]
    split
    · have := sp_len l []; simp; omega
    · have := sp_len l (cur ++ [b]); simp; omega
theorem sp_mem : ∀ (l cur : List UInt8), ∀ x ∈ sp l cur, x.length ≤ cur.length + l.length
  | [], cur => by simp [sp]
  | b :: l, cur => by
    rw [sp]
    split
    · intro x hx
      rcases List.mem_cons.1 hx with rfl | hx
      · simp
      · have := sp_mem l [] x hx; simp at this ⊢; omega
    · intro x hx
      have := sp_mem l (cur ++ [b]) x hx; simp at this ⊢; omega
def ln : List (List UInt8) → Nat → List (Int × List ByteArray)
  | [], _ => []
  | x :: l, i => if (ws x).length = 0 then ln l (i + 1) else (((i + 1 : Nat) : Int), ws x) :: ln l (i + 1)

theorem room32 {n : Nat} (h : n < 100000) : decide ((n + 1) * 32 ≤ most) = true := by
  rw [decide_eq_true_eq]; exact room h (by omega)

theorem lines_loop : ∀ (post pre : List (List UInt8)) (out : List (Int × List ByteArray)) (m : Nat), pre.length + post.length ≤ 80000 → (∀ x ∈ post, x.length ≤ 60000) → out.length ≤ pre.length → post.length < m →
    ∃ z, (iterT lex_Lines.t0 m (out, (pre.length : Int), (pre ++ post).map B, ((pre.length + post.length : Nat) : Int), (pre.length : Int), ())).run = some (.exit 0, out ++ ln post pre.length, z)
  | post, pre, out, 0, _, _, _, hm => absurd hm (Nat.not_lt_zero _)
  | [], pre, out, m + 1, hl, hx, ho, hm => by
    have e : (lex_Lines.t0 (out, (pre.length : Int), (pre ++ []).map B, ((pre.length + ([] : List (List UInt8)).length : Nat) : Int), (pre.length : Int), ())).run = some (.exit 0, out, (pre.length : Int), (pre ++ []).map B, ((pre.length + ([] : List (List UInt8)).length : Nat) : Int), (pre.length : Int), ()) := by
      unfold lex_Lines.t0
      dsimp only
      rw [tr_no (by simp), tr_ret, List.take_length]
    have hnil : ln [] pre.length = [] := rfl
    rw [iter_step e]
    simp only [hnil, List.append_nil]
    exact ⟨_, rfl⟩
  | x :: post, pre, out, m + 1, hl, hx, ho, hm => by
    have hl' : pre.length + post.length + 1 ≤ 80000 := by simp at hl; omega
    have hX : (pre ++ x :: post).map B = pre.map B ++ B x :: post.map B := by simp
    have hX2 : (pre ++ x :: post).map B = ((pre ++ [x]) ++ post).map B := by simp
    have hpn : (pre ++ [x]).length = pre.length + 1 := by simp
    have hlen : pre.length + (x :: post).length = (pre ++ [x]).length + post.length := by simp; omega
    have hg : lget ((pre ++ x :: post).map B) (pre.length : Int) = some (B x) := by
      rw [hX, show (pre.length : Int) = ((pre.map B).length : Int) by simp]
      exact lget_mid _ _ _
    have hlt : decide ((pre.length : Int) < ((pre.length + (x :: post).length : Nat) : Int)) = true := by rw [decide_eq_true_eq, List.length_cons]; omega
    have hW : W ((pre.length : Int) + 1) = (((pre ++ [x]).length : Nat) : Int) := by rw [W_id (by omega) (by omega), hpn]; omega
    have hw := Words_eq x (hx x (by simp))
    by_cases hz : (ws x).length = 0
    · have e : (lex_Lines.t0 (out, (pre.length : Int), (pre ++ x :: post).map B, ((pre.length + (x :: post).length : Nat) : Int), (pre.length : Int), ())).run = some (.normal, out, (((pre ++ [x]).length : Nat) : Int), ((pre ++ [x]) ++ post).map B, (((pre ++ [x]).length + post.length : Nat) : Int), (((pre ++ [x]).length : Nat) : Int), ()) := by
        unfold lex_Lines.t0
        dsimp only
        rw [tr_yes hlt, hg, tr_opt, Option.bind_some, hw, tr_opt, Option.bind_some, tr_yes (by rw [hz]; rfl), tr_ret, List.take_length, hW, hX2, hlen]
      obtain ⟨z, ih⟩ := lines_loop post (pre ++ [x]) out m (by rw [hpn]; omega) (fun y hy => hx y (by simp [hy])) (by rw [hpn]; omega) (by simp at hm; omega)
      refine ⟨z, ?_⟩
      rw [iter_step e]
      show (iterT lex_Lines.t0 m _).run = _
      rw [ih, ln, if_pos hz, hpn]
    · have e : (lex_Lines.t0 (out, (pre.length : Int), (pre ++ x :: post).map B, ((pre.length + (x :: post).length : Nat) : Int), (pre.length : Int), ())).run = some (.normal, out ++ [((((pre ++ [x]).length : Nat) : Int), ws x)], (((pre ++ [x]).length : Nat) : Int), ((pre ++ [x]) ++ post).map B, (((pre ++ [x]).length + post.length : Nat) : Int), (((pre ++ [x]).length : Nat) : Int), ()) := by
        unfold lex_Lines.t0
        dsimp only
        rw [tr_yes hlt, hg, tr_opt, Option.bind_some, hw, tr_opt, Option.bind_some, tr_no (by rw [beq_eq_false_iff_ne]; omega), tr_yes (room32 (by omega)), tr_ret, take_all, hW, hX2, hlen]
      obtain ⟨z, ih⟩ := lines_loop post (pre ++ [x]) (out ++ [((((pre ++ [x]).length : Nat) : Int), ws x)]) m (by rw [hpn]; omega) (fun y hy => hx y (by simp [hy])) (by simp; omega) (by simp at hm; omega)
      refine ⟨z, ?_⟩
      rw [iter_step e]
      show (iterT lex_Lines.t0 m _).run = _
      rw [ih, ln, if_neg hz, hpn]
      simp

theorem Lines_eq (l : List UInt8) (h : l.length ≤ 60000) : lex_Lines (B l) = some (ln (sp l []) 0) := by
  have h1 := sp_len l []
  have h2 := sp_mem l []
  obtain ⟨z, hz⟩ := lines_loop (sp l []) [] [] rounds (by simp; omega) (fun x hx => by have := h2 x hx; simp at this; omega) (by simp) (rounds_gt (by omega))
  unfold lex_Lines lex_Lines.t lex_Lines.l0
  have hm : ByteArray.mk #[10] = B [10] := rfl
  rw [hm, gen_eq l h, tr_opt, Option.bind_some]
  have e : (((sp l []).map B).length : Int) = ((([] : List (List UInt8)).length + (sp l []).length : Nat) : Int) := by simp
  rw [e]
  have hz' : (iterT lex_Lines.t0 rounds ([], (0 : Int), (sp l []).map B, ((([] : List (List UInt8)).length + (sp l []).length : Nat) : Int), (0 : Int), ())).run = _ := hz
  rw [hz', tr_opt, Option.bind_some]
  dsimp only
  rw [tr_yes (by decide), tr_ret, List.nil_append, List.take_length]
  rfl

end Go.Proofs.Pen

namespace Go.Proofs.Pen
open Go Go.Proofs
noncomputable def fault_Fault_Unwrap.t (x : (Int × Int × ErrD)) : T (ErrD) := T.ret x.2.2
noncomputable def fault_Fault_Unwrap.q : List AV → T AV := entry [TF] (outR [TE]) fault_Fault_Unwrap.t
theorem fault_Fault_Unwrap.ok : FnOK Tryz.prog 156 fault_Fault_Unwrap.q :=
  entry_in (ps := [TF]) (rs := [TE]) (F := ({ quiet := Xs, deep := noDeep } : Fns)) (D := D0) (S := tabS []) (t := fault_Fault_Unwrap.t) mixed Xok (deep_none _) Tryz.func156 (by kernel_rfl) (sok_fn trivial) (by kernel_rfl) (fun x => by kernel_rfl)
end Go.Proofs.Pen

namespace Go.Proofs.Pen
open Go Go.Proofs
noncomputable def fault_Fault_Is.t (x : (Int × Int × ErrD) × Int) : T (Bool) := T.ret (x.2 == x.1.1)
noncomputable def fault_Fault_Is.q : List AV → T AV := entry [TF, (.ifi 34 .i64)] (outR [.bool]) fault_Fault_Is.t
theorem fault_Fault_Is.ok : FnOK Tryz.prog 155 fault_Fault_Is.q :=
  entry_in (ps := [TF, (.ifi 34 .i64)]) (rs := [.bool]) (F := ({ quiet := Xs, deep := noDeep } : Fns)) (D := D0) (S := tabS []) (t := fault_Fault_Is.t) mixed Xok (deep_none _) Tryz.func155 (by kernel_rfl) (sok_fn trivial) (by kernel_rfl) (fun x => by kernel_rfl)
end Go.Proofs.Pen

namespace Go.Proofs.Pen
open Go Go.Proofs
def errors_is.L3 : List (Nat × Lay) := [(1, .val (.ifi 34 .i64)), (2, .val .bool), (6, .val .bool), (43, .val .bool), (44, .val TI), (45, .val TI)]
noncomputable def errors_is.t3 (x : Int × Bool × Bool × Bool × Int × Int × Unit) : T (Ex × Int × Bool × Bool × Bool × Int × Int × Unit) := T.ite (decide (x.2.2.2.2.2.1 < x.2.2.2.2.1)) T.fail (T.ret (Ex.exit (3 : Nat), x.1, x.2.1, x.2.2.1, x.2.2.2.1, x.2.2.2.2.1, x.2.2.2.2.2.1, ()))
noncomputable def errors_is.l3 (x : Int × Bool × Bool × Bool × Int × Int × Unit) : Option (Ex × Int × Bool × Bool × Bool × Int × Int × Unit) := (iterT errors_is.t3 rounds x).run
theorem errors_is.k3 : bodies 3 (lp Tryz.f69 [0]) = [.loop (loopIn 3 (lp Tryz.f69 [0]))] ∧ WP Tryz.prog 0 (.block 3 (.loop (loopIn 3 (lp Tryz.f69 [0])))) (loopS errors_is.L3 54 3 [.exit 3, .ret] errors_is.l3) :=
  loop_tree (L := errors_is.L3) (F := ({ quiet := (ext (ext Xs 156 fault_Fault_Unwrap.q) 155 fault_Fault_Is.q), deep := noDeep } : Fns)) (D := D0) (tab := []) (t := errors_is.t3) mixed (quiet_ext (quiet_ext Xok fault_Fault_Unwrap.ok) fault_Fault_Is.ok) (deep_none _) (fun _ => rfl) (by kernel_rfl) (by kernel_rfl) trivial (fun x => by kernel_rfl)
def errors_is.L0 : List (Nat × Lay) := [(0, .val TE), (1, .val (.ifi 34 .i64)), (2, .val .bool), (6, .val .bool)]
noncomputable def errors_is.t0 (x : ErrD × Int × Bool × Bool × Unit) : T (Ex × ErrD × Int × Bool × Bool × Unit) := T.ite (x.2.2.1 && ErrD.isThe x.2.1 x.1) (T.ret (Ex.ret, x.1, x.2.1, x.2.2.1, true, ())) (T.ite (ErrD.isFault x.1) (T.ite (ErrD.onlyF x.1).isFault (T.ite (x.2.1 == (ErrD.onlyF x.1).faultC) (T.ret (Ex.ret, x.1, x.2.1, x.2.2.1, true, ())) (T.ite (ErrD.isFault x.1) (T.ite (ErrD.onlyF x.1).isFault (T.ite (ErrD.onlyF x.1).faultE.isNil (T.ret (Ex.ret, (ErrD.onlyF x.1).faultE, x.2.1, x.2.2.1, false, ())) (T.ret (Ex.normal, (ErrD.onlyF x.1).faultE, x.2.1, x.2.2.1, x.2.2.2.1, ()))) (T.ite (ErrD.onlyF x.1).isCode T.fail T.fail)) (T.ret (Ex.ret, x.1, x.2.1, x.2.2.1, false, ())))) (T.ite (ErrD.onlyF x.1).isCode T.fail T.fail)) (T.ite (ErrD.isFault x.1) (T.ite (ErrD.onlyF x.1).isFault (T.ite (ErrD.onlyF x.1).faultE.isNil (T.ret (Ex.ret, (ErrD.onlyF x.1).faultE, x.2.1, x.2.2.1, false, ())) (T.ret (Ex.normal, (ErrD.onlyF x.1).faultE, x.2.1, x.2.2.1, x.2.2.2.1, ()))) (T.ite (ErrD.onlyF x.1).isCode T.fail T.fail)) (T.ret (Ex.ret, x.1, x.2.1, x.2.2.1, false, ()))))
noncomputable def errors_is.l0 (x : ErrD × Int × Bool × Bool × Unit) : Option (Ex × ErrD × Int × Bool × Bool × Unit) := (iterT errors_is.t0 rounds x).run
theorem errors_is.k0 : bodies 0 (lp Tryz.f69 []) = [.loop (loopIn 0 (lp Tryz.f69 []))] ∧ WP Tryz.prog 0 (.block 0 (.loop (loopIn 0 (lp Tryz.f69 [])))) (loopS errors_is.L0 54 0 [.ret] errors_is.l0) :=
  loop_tree (L := errors_is.L0) (F := ({ quiet := (ext (ext Xs 156 fault_Fault_Unwrap.q) 155 fault_Fault_Is.q), deep := noDeep } : Fns)) (D := D0) (tab := [(3, loopS errors_is.L3 54 3 [.exit 3, .ret] errors_is.l3)]) (t := errors_is.t0) mixed (quiet_ext (quiet_ext Xok fault_Fault_Unwrap.ok) fault_Fault_Is.ok) (deep_none _) (fun _ => rfl) (by kernel_rfl) (by kernel_rfl) ⟨errors_is.k3, trivial⟩ (fun x => by kernel_rfl)
noncomputable def errors_is.t (x : ErrD × Int × Bool) : T (Bool) := T.opt (errors_is.l0 (x.1, x.2.1, x.2.2, false, ())) fun y => T.ite (exEq y.1 Ex.ret) (T.ret y.2.2.2.2.1) T.fail
noncomputable def errors_is (x : ErrD × Int × Bool) : Option (Bool) := (errors_is.t x).run
noncomputable def errors_is.q : List AV → T AV := entry [TE, (.ifi 34 .i64), .bool] (outR [.bool]) fun x => .opt (errors_is x) .ret
theorem errors_is.ok : FnOK Tryz.prog 69 errors_is.q :=
  entry_call (ps := [TE, (.ifi 34 .i64), .bool]) (rs := [.bool]) (F := ({ quiet := (ext (ext Xs 156 fault_Fault_Unwrap.q) 155 fault_Fault_Is.q), deep := noDeep } : Fns)) (D := D0) (S := tabS [(0, loopS errors_is.L0 54 0 [.ret] errors_is.l0)]) (t := errors_is.t) mixed (quiet_ext (quiet_ext Xok fault_Fault_Unwrap.ok) fault_Fault_Is.ok) (deep_none _) Tryz.func69 (by kernel_rfl) (sok_fn ⟨errors_is.k0, trivial⟩) (by kernel_rfl) (fun x => by kernel_rfl)
end Go.Proofs.Pen

namespace Go.Proofs.Pen
open Go Go.Proofs
noncomputable def errors_Is.t (x : ErrD × Int) : T (Bool) := T.ite (ErrD.isNil x.1) (T.ret (ErrD.isThe x.2 x.1)) (T.opt (errors_is (x.1, x.2, true)) fun y => T.ret y)
noncomputable def errors_Is (x : ErrD × Int) : Option (Bool) := (errors_Is.t x).run
noncomputable def errors_Is.q : List AV → T AV := entry [TE, (.ifi 34 .i64)] (outR [.bool]) fun x => .opt (errors_Is x) .ret
theorem errors_Is.ok : FnOK Tryz.prog 41 errors_Is.q :=
  entry_call (ps := [TE, (.ifi 34 .i64)]) (rs := [.bool]) (F := ({ quiet := (ext Xs 69 errors_is.q), deep := noDeep } : Fns)) (D := D0) (S := tabS []) (t := errors_Is.t) mixed (quiet_ext Xok errors_is.ok) (deep_none _) Tryz.func41 (by kernel_rfl) (sok_fn trivial) (by kernel_rfl) (fun x => by kernel_rfl)
end Go.Proofs.Pen

namespace Go.Proofs.Pen
open Go Go.Proofs
noncomputable def fault_Is.t (x : ErrD × Int) : T (Bool) := T.ite (!ErrD.isNil x.1) (T.opt (errors_Is x) fun y => T.ret y) (T.ret false)
noncomputable def fault_Is (x : ErrD × Int) : Option (Bool) := (fault_Is.t x).run
noncomputable def fault_Is.q : List AV → T AV := entry [TE, TI] (outR [.bool]) fun x => .opt (fault_Is x) .ret
theorem fault_Is.ok : FnOK Tryz.prog 20 fault_Is.q :=
  entry_call (ps := [TE, TI]) (rs := [.bool]) (F := ({ quiet := (ext Xs 41 errors_Is.q), deep := noDeep } : Fns)) (D := D0) (S := tabS []) (t := fault_Is.t) mixed (quiet_ext Xok errors_Is.ok) (deep_none _) Tryz.func20 (by kernel_rfl) (sok_fn trivial) (by kernel_rfl) (fun x => by kernel_rfl)
end Go.Proofs.Pen

namespace Go.Proofs.Pen
open Go Go.Proofs
noncomputable def fault_New.t (x : Int × Int) : T (ErrD) := T.ite (x.1 == (0 : Int)) (T.ret ErrD.nil) (T.ret (ErrD.fault x.1 x.2 ErrD.nil))
noncomputable def fault_New (x : Int × Int) : Option (ErrD) := (fault_New.t x).run
noncomputable def fault_New.q : List AV → T AV := entry [TI, TI] (outR [TE]) fun x => .opt (fault_New x) .ret
theorem fault_New.ok : FnOK Tryz.prog 48 fault_New.q :=
  entry_call (ps := [TI, TI]) (rs := [TE]) (F := ({ quiet := Xs, deep := noDeep } : Fns)) (D := D0) (S := tabS []) (t := fault_New.t) mixed Xok (deep_none _) Tryz.func48 (by kernel_rfl) (sok_fn trivial) (by kernel_rfl) (fun x => by kernel_rfl)
end Go.Proofs.Pen

namespace Go.Proofs.Pen
open Go Go.Proofs
noncomputable def fault_Wrap.t (x : ErrD × Int × Int) : T (ErrD) := T.ite (ErrD.isNil x.1 || x.2.1 == (0 : Int)) (T.ret x.1) (T.ret (ErrD.fault x.2.1 x.2.2 x.1))
noncomputable def fault_Wrap (x : ErrD × Int × Int) : Option (ErrD) := (fault_Wrap.t x).run
noncomputable def fault_Wrap.q : List AV → T AV := entry [TE, TI, TI] (outR [TE]) fun x => .opt (fault_Wrap x) .ret
theorem fault_Wrap.ok : FnOK Tryz.prog 47 fault_Wrap.q :=
  entry_call (ps := [TE, TI, TI]) (rs := [TE]) (F := ({ quiet := Xs, deep := noDeep } : Fns)) (D := D0) (S := tabS []) (t := fault_Wrap.t) mixed Xok (deep_none _) Tryz.func47 (by kernel_rfl) (sok_fn trivial) (by kernel_rfl) (fun x => by kernel_rfl)
end Go.Proofs.Pen

namespace Go.Proofs.Pen
open Go Go.Proofs
noncomputable def scene_bound.t (x : Int × Int) : T (ErrD) := T.opt (fault_New x) fun y => T.opt (fault_Wrap (y, (10 : Int), (0 : Int))) fun y => T.ret y
noncomputable def scene_bound (x : Int × Int) : Option (ErrD) := (scene_bound.t x).run
noncomputable def scene_bound.q : List AV → T AV := entry [TI, TI] (outR [TE]) fun x => .opt (scene_bound x) .ret
theorem scene_bound.ok : FnOK Tryz.prog 79 scene_bound.q :=
  entry_call (ps := [TI, TI]) (rs := [TE]) (F := ({ quiet := (ext (ext Xs 48 fault_New.q) 47 fault_Wrap.q), deep := noDeep } : Fns)) (D := D0) (S := tabS []) (t := scene_bound.t) mixed (quiet_ext (quiet_ext Xok fault_New.ok) fault_Wrap.ok) (deep_none _) Tryz.func79 (by kernel_rfl) (sok_fn trivial) (by kernel_rfl) (fun x => by kernel_rfl)
end Go.Proofs.Pen

namespace Go.Proofs.Pen
open Go Go.Proofs
noncomputable def scene_many.t (x : ((List ((Int × Int × Int) × (Int × Int × Int) × Int)) × (List ((Int × Int × Int) × (Int × Int × Int) × (Int × Int × Int) × Int)) × (List (Int × Int × Int × Int)) × Int × (List (Int × Int × Int)) × ((Int × Int × Int) × (Int × Int × Int) × (Int × Int × Int) × Int × Int × Int) × Int × Int)) : T (ErrD) := T.ite (decide ((↑(List.length x.1) : Int) > (32 : Int)) || decide ((↑(List.length x.2.1) : Int) > (512 : Int)) || decide ((↑(List.length x.2.2.1) : Int) > (512 : Int)) || decide (x.2.2.2.1 > (16 : Int))) (T.opt (scene_bound ((4 : Int), (0 : Int))) fun y => T.ret y) (T.ret ErrD.nil)
noncomputable def scene_many (x : ((List ((Int × Int × Int) × (Int × Int × Int) × Int)) × (List ((Int × Int × Int) × (Int × Int × Int) × (Int × Int × Int) × Int)) × (List (Int × Int × Int × Int)) × Int × (List (Int × Int × Int)) × ((Int × Int × Int) × (Int × Int × Int) × (Int × Int × Int) × Int × Int × Int) × Int × Int)) : Option (ErrD) := (scene_many.t x).run
noncomputable def scene_many.q : List AV → T AV := entry [TScn] (outR [TE]) fun x => .opt (scene_many x) .ret
theorem scene_many.ok : FnOK Tryz.prog 55 scene_many.q :=
  entry_call (ps := [TScn]) (rs := [TE]) (F := ({ quiet := (ext Xs 79 scene_bound.q), deep := noDeep } : Fns)) (D := D0) (S := tabS []) (t := scene_many.t) mixed (quiet_ext Xok scene_bound.ok) (deep_none _) Tryz.func55 (by kernel_rfl) (sok_fn trivial) (by kernel_rfl) (fun x => by kernel_rfl)
end Go.Proofs.Pen

namespace Go.Proofs.Pen
open Go Go.Proofs
def slices_Min.L0 : List (Nat × Lay) := [(0, .val (.sl TI)), (3, .val TI), (4, .val TI)]
noncomputable def slices_Min.t0 (x : (List (Int)) × Int × Int × Unit) : T (Ex × (List (Int)) × Int × Int × Unit) := T.ite (decide (x.2.2.1 < (↑(List.length x.1) : Int))) (T.opt (lget x.1 x.2.2.1) fun y => T.ret (Ex.normal, x.1, if y < x.2.1 then y else x.2.1, W (x.2.2.1 + (1 : Int)), ())) (T.ret (Ex.exit (0 : Nat), x.1, x.2.1, x.2.2.1, ()))
noncomputable def slices_Min.l0 (x : (List (Int)) × Int × Int × Unit) : Option (Ex × (List (Int)) × Int × Int × Unit) := (iterT slices_Min.t0 rounds x).run
theorem slices_Min.k0 : bodies 0 (lp Tryz.f101 []) = [.loop (loopIn 0 (lp Tryz.f101 []))] ∧ WP Tryz.prog 0 (.block 0 (.loop (loopIn 0 (lp Tryz.f101 [])))) (loopS slices_Min.L0 25 0 [.exit 0] slices_Min.l0) :=
  loop_tree (L := slices_Min.L0) (F := ({ quiet := Xs, deep := noDeep } : Fns)) (D := D0) (tab := []) (t := slices_Min.t0) mixed Xok (deep_none _) (fun _ => rfl) (by kernel_rfl) (by kernel_rfl) trivial (fun x => by kernel_rfl)
noncomputable def slices_Min.t (x : (List (Int))) : T (Int) := T.ite (decide ((↑(List.length x) : Int) < (1 : Int))) T.fail (T.opt (lget x (0 : Int)) fun y => T.opt (slices_Min.l0 (x, y, (1 : Int), ())) fun y => T.ite (exEq y.1 (Ex.exit (0 : Nat))) (T.ret y.2.2.1) T.fail)
noncomputable def slices_Min (x : (List (Int))) : Option (Int) := (slices_Min.t x).run
noncomputable def slices_Min.q : List AV → T AV := entry [(.sl TI)] (outR [TI]) fun x => .opt (slices_Min x) .ret
theorem slices_Min.ok : FnOK Tryz.prog 101 slices_Min.q :=
  entry_call (ps := [(.sl TI)]) (rs := [TI]) (F := ({ quiet := Xs, deep := noDeep } : Fns)) (D := D0) (S := tabS [(0, loopS slices_Min.L0 25 0 [.exit 0] slices_Min.l0)]) (t := slices_Min.t) mixed Xok (deep_none _) Tryz.func101 (by kernel_rfl) (sok_fn ⟨slices_Min.k0, trivial⟩) (by kernel_rfl) (fun x => by kernel_rfl)
end Go.Proofs.Pen

namespace Go.Proofs.Pen
open Go Go.Proofs
def slices_Max.L0 : List (Nat × Lay) := [(0, .val (.sl TI)), (3, .val TI), (4, .val TI)]
noncomputable def slices_Max.t0 (x : (List (Int)) × Int × Int × Unit) : T (Ex × (List (Int)) × Int × Int × Unit) := T.ite (decide (x.2.2.1 < (↑(List.length x.1) : Int))) (T.opt (lget x.1 x.2.2.1) fun y => T.ret (Ex.normal, x.1, if y > x.2.1 then y else x.2.1, W (x.2.2.1 + (1 : Int)), ())) (T.ret (Ex.exit (0 : Nat), x.1, x.2.1, x.2.2.1, ()))
noncomputable def slices_Max.l0 (x : (List (Int)) × Int × Int × Unit) : Option (Ex × (List (Int)) × Int × Int × Unit) := (iterT slices_Max.t0 rounds x).run
theorem slices_Max.k0 : bodies 0 (lp Tryz.f102 []) = [.loop (loopIn 0 (lp Tryz.f102 []))] ∧ WP Tryz.prog 0 (.block 0 (.loop (loopIn 0 (lp Tryz.f102 [])))) (loopS slices_Max.L0 25 0 [.exit 0] slices_Max.l0) :=
  loop_tree (L := slices_Max.L0) (F := ({ quiet := Xs, deep := noDeep } : Fns)) (D := D0) (tab := []) (t := slices_Max.t0) mixed Xok (deep_none _) (fun _ => rfl) (by kernel_rfl) (by kernel_rfl) trivial (fun x => by kernel_rfl)
noncomputable def slices_Max.t (x : (List (Int))) : T (Int) := T.ite (decide ((↑(List.length x) : Int) < (1 : Int))) T.fail (T.opt (lget x (0 : Int)) fun y => T.opt (slices_Max.l0 (x, y, (1 : Int), ())) fun y => T.ite (exEq y.1 (Ex.exit (0 : Nat))) (T.ret y.2.2.1) T.fail)
noncomputable def slices_Max (x : (List (Int))) : Option (Int) := (slices_Max.t x).run
noncomputable def slices_Max.q : List AV → T AV := entry [(.sl TI)] (outR [TI]) fun x => .opt (slices_Max x) .ret
theorem slices_Max.ok : FnOK Tryz.prog 102 slices_Max.q :=
  entry_call (ps := [(.sl TI)]) (rs := [TI]) (F := ({ quiet := Xs, deep := noDeep } : Fns)) (D := D0) (S := tabS [(0, loopS slices_Max.L0 25 0 [.exit 0] slices_Max.l0)]) (t := slices_Max.t) mixed Xok (deep_none _) Tryz.func102 (by kernel_rfl) (sok_fn ⟨slices_Max.k0, trivial⟩) (by kernel_rfl) (fun x => by kernel_rfl)
end Go.Proofs.Pen

namespace Go.Proofs.Pen
open Go Go.Proofs
noncomputable def scene_within_1.t (x : (List (Int)) × Int × Int) : T (Bool) := T.opt (slices_Min x.1) fun y => T.ite (decide (y ≥ x.2.1)) (T.opt (slices_Max x.1) fun y => T.ret (decide (y ≤ x.2.2))) (T.ret false)
noncomputable def scene_within_1 (x : (List (Int)) × Int × Int) : Option (Bool) := (scene_within_1.t x).run
noncomputable def scene_within_1.q : List AV → T AV := entry [(.sl TI), (.ptr TI), (.ptr TI)] (outR [.bool]) fun x => .opt (scene_within_1 x) .ret
theorem scene_within_1.ok : FnOK Tryz.prog 100 scene_within_1.q :=
  entry_call (ps := [(.sl TI), (.ptr TI), (.ptr TI)]) (rs := [.bool]) (F := ({ quiet := (ext (ext Xs 101 slices_Min.q) 102 slices_Max.q), deep := noDeep } : Fns)) (D := D0) (S := tabS []) (t := scene_within_1.t) mixed (quiet_ext (quiet_ext Xok slices_Min.ok) slices_Max.ok) (deep_none _) Tryz.func100 (by kernel_rfl) (sok_fn trivial) (by kernel_rfl) (fun x => by kernel_rfl)
end Go.Proofs.Pen

namespace Go.Proofs.Pen
open Go Go.Proofs
noncomputable def scene_within.t (x : Int × Int) : T ((Int × Int)) := T.ret x
noncomputable def scene_within.q : List AV → T AV := entry [TI, TI] (outR [(.clo 100 (.pair (.ptr TI) (.ptr TI)))]) scene_within.t
theorem scene_within.ok : FnOK Tryz.prog 80 scene_within.q :=
  entry_in (ps := [TI, TI]) (rs := [(.clo 100 (.pair (.ptr TI) (.ptr TI)))]) (F := ({ quiet := (ext Xs 100 scene_within_1.q), deep := noDeep } : Fns)) (D := D0) (S := tabS []) (t := scene_within.t) mixed (quiet_ext Xok scene_within_1.ok) (deep_none _) Tryz.func80 (by kernel_rfl) (sok_fn trivial) (by kernel_rfl) (fun x => by kernel_rfl)
end Go.Proofs.Pen

namespace Go.Proofs.Pen
open Go Go.Proofs
noncomputable def scene_point.t (x : (Int × Int × Int)) : T ((List (Int))) := T.ret (List.take (3 : Nat) [x.1, x.2.1, x.2.2])
noncomputable def scene_point.q : List AV → T AV := entry [TP] (outR [(.sl TI)]) scene_point.t
theorem scene_point.ok : FnOK Tryz.prog 81 scene_point.q :=
  entry_in (ps := [TP]) (rs := [(.sl TI)]) (F := ({ quiet := Xs, deep := noDeep } : Fns)) (D := D0) (S := tabS []) (t := scene_point.t) mixed Xok (deep_none _) Tryz.func81 (by kernel_rfl) (sok_fn trivial) (by kernel_rfl) (fun x => by kernel_rfl)
end Go.Proofs.Pen

namespace Go.Proofs.Pen
open Go Go.Proofs
noncomputable def scene_broken.t (x : Int × Int) : T (ErrD) := T.opt (fault_New x) fun y => T.opt (fault_Wrap (y, (11 : Int), (0 : Int))) fun y => T.ret y
noncomputable def scene_broken (x : Int × Int) : Option (ErrD) := (scene_broken.t x).run
noncomputable def scene_broken.q : List AV → T AV := entry [TI, TI] (outR [TE]) fun x => .opt (scene_broken x) .ret
theorem scene_broken.ok : FnOK Tryz.prog 82 scene_broken.q :=
  entry_call (ps := [TI, TI]) (rs := [TE]) (F := ({ quiet := (ext (ext Xs 48 fault_New.q) 47 fault_Wrap.q), deep := noDeep } : Fns)) (D := D0) (S := tabS []) (t := scene_broken.t) mixed (quiet_ext (quiet_ext Xok fault_New.ok) fault_Wrap.ok) (deep_none _) Tryz.func82 (by kernel_rfl) (sok_fn trivial) (by kernel_rfl) (fun x => by kernel_rfl)
end Go.Proofs.Pen

namespace Go.Proofs.Pen
open Go Go.Proofs
def scene_mats.L2 : List (Nat × Lay) := [(2, .val TE), (3, .val (.clo 100 (.pair (.ptr TI) (.ptr TI)))), (4, .val TI), (5, .box TMatD), (10, .val (.sl TMatD)), (11, .val TI), (12, .val TI), (44, .val (.sl TI)), (45, .val TI), (46, .val TI)]
noncomputable def scene_mats.t2 (x : ErrD × (Int × Int) × Int × ((Int × Int × Int) × (Int × Int × Int) × Int) × (List ((Int × Int × Int) × (Int × Int × Int) × Int)) × Int × Int × (List (Int)) × Int × Int × Unit) : T (Ex × ErrD × (Int × Int) × Int × ((Int × Int × Int) × (Int × Int × Int) × Int) × (List ((Int × Int × Int) × (Int × Int × Int) × Int)) × Int × Int × (List (Int)) × Int × Int × Unit) := T.ite (decide (x.2.2.2.2.2.2.2.2.2.1 < x.2.2.2.2.2.2.2.2.1)) (T.opt (lget x.2.2.2.2.2.2.2.1 x.2.2.2.2.2.2.2.2.2.1) fun y => T.ite (decide (y ≥ (1024 : Int))) (T.opt (scene_broken ((4 : Int), W (x.2.2.1 + (1 : Int)))) fun y => T.ret (Ex.ret, y, x.2.1, x.2.2.1, x.2.2.2.1, x.2.2.2.2.1, x.2.2.2.2.2.1, x.2.2.2.2.2.2.1, x.2.2.2.2.2.2.2.1, x.2.2.2.2.2.2.2.2.1, x.2.2.2.2.2.2.2.2.2.1, ())) (T.opt (lget (List.take (3 : Nat) [x.2.2.2.1.2.1.1, x.2.2.2.1.2.1.2.1, x.2.2.2.1.2.1.2.2]) x.2.2.2.2.2.2.2.2.2.1) fun y_1 => T.ite (decide (W (y + if (1024 : Int) < y_1 then (1024 : Int) else y_1) ≥ (1024 : Int))) (T.opt (scene_broken ((4 : Int), W (x.2.2.1 + (1 : Int)))) fun y => T.ret (Ex.ret, y, x.2.1, x.2.2.1, x.2.2.2.1, x.2.2.2.2.1, x.2.2.2.2.2.1, x.2.2.2.2.2.2.1, x.2.2.2.2.2.2.2.1, x.2.2.2.2.2.2.2.2.1, x.2.2.2.2.2.2.2.2.2.1, ())) (T.ret (Ex.normal, x.1, x.2.1, x.2.2.1, x.2.2.2.1, x.2.2.2.2.1, x.2.2.2.2.2.1, x.2.2.2.2.2.2.1, x.2.2.2.2.2.2.2.1, x.2.2.2.2.2.2.2.2.1, W (x.2.2.2.2.2.2.2.2.2.1 + (1 : Int)), ())))) (T.ret (Ex.exit (2 : Nat), x.1, x.2.1, x.2.2.1, x.2.2.2.1, x.2.2.2.2.1, x.2.2.2.2.2.1, x.2.2.2.2.2.2.1, x.2.2.2.2.2.2.2.1, x.2.2.2.2.2.2.2.2.1, x.2.2.2.2.2.2.2.2.2.1, ()))
noncomputable def scene_mats.l2 (x : ErrD × (Int × Int) × Int × ((Int × Int × Int) × (Int × Int × Int) × Int) × (List ((Int × Int × Int) × (Int × Int × Int) × Int)) × Int × Int × (List (Int)) × Int × Int × Unit) : Option (Ex × ErrD × (Int × Int) × Int × ((Int × Int × Int) × (Int × Int × Int) × Int) × (List ((Int × Int × Int) × (Int × Int × Int) × Int)) × Int × Int × (List (Int)) × Int × Int × Unit) := (iterT scene_mats.t2 rounds x).run
theorem scene_mats.k2 : bodies 2 (lp Tryz.f56 [0]) = [.loop (loopIn 2 (lp Tryz.f56 [0]))] ∧ WP Tryz.prog 0 (.block 2 (.loop (loopIn 2 (lp Tryz.f56 [0])))) (loopS scene_mats.L2 70 2 [.exit 2, .ret] scene_mats.l2) :=
  loop_tree (L := scene_mats.L2) (F := ({ quiet := (ext (ext (ext (ext (ext Xs 80 scene_within.q) 81 scene_point.q) 79 scene_bound.q) 82 scene_broken.q) 100 scene_within_1.q), deep := noDeep } : Fns)) (D := D0) (tab := []) (t := scene_mats.t2) mixed (quiet_ext (quiet_ext (quiet_ext (quiet_ext (quiet_ext Xok scene_within.ok) scene_point.ok) scene_bound.ok) scene_broken.ok) scene_within_1.ok) (deep_none _) (fun _ => rfl) (by kernel_rfl) (by kernel_rfl) trivial (fun x => by kernel_rfl)
def scene_mats.L0 : List (Nat × Lay) := [(2, .val TE), (3, .val (.clo 100 (.pair (.ptr TI) (.ptr TI)))), (10, .val (.sl TMatD)), (11, .val TI), (12, .val TI)]
noncomputable def scene_mats.t0 (x : ErrD × (Int × Int) × (List ((Int × Int × Int) × (Int × Int × Int) × Int)) × Int × Int × Unit) : T (Ex × ErrD × (Int × Int) × (List ((Int × Int × Int) × (Int × Int × Int) × Int)) × Int × Int × Unit) := T.ite (decide (x.2.2.2.2.1 < x.2.2.2.1)) (T.opt (lget x.2.2.1 x.2.2.2.2.1) fun y => T.opt (scene_within_1 ([y.2.2], (1 : Int), (1024 : Int))) fun y_1 => T.ite (!y_1) (T.opt (scene_bound ((3 : Int), W (x.2.2.2.2.1 + (1 : Int)))) fun y => T.ret (Ex.ret, y, x.2.1, x.2.2.1, x.2.2.2.1, x.2.2.2.2.1, ())) (T.opt (scene_within_1 (List.take (3 : Nat) [y.1.1, y.1.2.1, y.1.2.2], x.2.1)) fun y_2 => T.ite (!y_2) (T.opt (scene_bound ((3 : Int), W (x.2.2.2.2.1 + (1 : Int)))) fun y => T.ret (Ex.ret, y, x.2.1, x.2.2.1, x.2.2.2.1, x.2.2.2.2.1, ())) (T.opt (scene_within_1 (List.take (3 : Nat) [y.2.1.1, y.2.1.2.1, y.2.1.2.2], x.2.1)) fun y_3 => T.ite (!y_3) (T.opt (scene_bound ((3 : Int), W (x.2.2.2.2.1 + (1 : Int)))) fun y => T.ret (Ex.ret, y, x.2.1, x.2.2.1, x.2.2.2.1, x.2.2.2.2.1, ())) (T.opt (scene_mats.l2 (x.1, x.2.1, x.2.2.2.2.1, y, x.2.2.1, x.2.2.2.1, x.2.2.2.2.1, List.take (3 : Nat) [y.1.1, y.1.2.1, y.1.2.2], (↑(List.take (3 : Nat) [y.1.1, y.1.2.1, y.1.2.2]).length : Int), (0 : Int), ())) fun y => T.ite (exEq y.1 (Ex.exit (2 : Nat))) (T.ret (Ex.normal, y.2.1, y.2.2.1, y.2.2.2.2.2.1, y.2.2.2.2.2.2.1, W (y.2.2.2.2.2.2.2.1 + (1 : Int)), ())) (T.ite (exEq y.1 Ex.ret) (T.ret (Ex.ret, y.2.1, y.2.2.1, y.2.2.2.2.2.1, y.2.2.2.2.2.2.1, y.2.2.2.2.2.2.2.1, ())) T.fail))))) (T.ret (Ex.exit (0 : Nat), x.1, x.2.1, x.2.2.1, x.2.2.2.1, x.2.2.2.2.1, ()))
noncomputable def scene_mats.l0 (x : ErrD × (Int × Int) × (List ((Int × Int × Int) × (Int × Int × Int) × Int)) × Int × Int × Unit) : Option (Ex × ErrD × (Int × Int) × (List ((Int × Int × Int) × (Int × Int × Int) × Int)) × Int × Int × Unit) := (iterT scene_mats.t0 rounds x).run
theorem scene_mats.k0 : bodies 0 (lp Tryz.f56 []) = [.loop (loopIn 0 (lp Tryz.f56 []))] ∧ WP Tryz.prog 0 (.block 0 (.loop (loopIn 0 (lp Tryz.f56 [])))) (loopS scene_mats.L0 70 0 [.exit 0, .ret] scene_mats.l0) :=
  loop_tree (L := scene_mats.L0) (F := ({ quiet := (ext (ext (ext (ext (ext Xs 80 scene_within.q) 81 scene_point.q) 79 scene_bound.q) 82 scene_broken.q) 100 scene_within_1.q), deep := noDeep } : Fns)) (D := D0) (tab := [(2, loopS scene_mats.L2 70 2 [.exit 2, .ret] scene_mats.l2)]) (t := scene_mats.t0) mixed (quiet_ext (quiet_ext (quiet_ext (quiet_ext (quiet_ext Xok scene_within.ok) scene_point.ok) scene_bound.ok) scene_broken.ok) scene_within_1.ok) (deep_none _) (fun _ => rfl) (by kernel_rfl) (by kernel_rfl) ⟨scene_mats.k2, trivial⟩ (fun x => by kernel_rfl)
noncomputable def scene_mats.t (x : ((List ((Int × Int × Int) × (Int × Int × Int) × Int)) × (List ((Int × Int × Int) × (Int × Int × Int) × (Int × Int × Int) × Int)) × (List (Int × Int × Int × Int)) × Int × (List (Int × Int × Int)) × ((Int × Int × Int) × (Int × Int × Int) × (Int × Int × Int) × Int × Int × Int) × Int × Int)) : T (ErrD) := T.opt (scene_mats.l0 (ErrD.nil, ((0 : Int), (9223372036854775807 : Int)), x.1, (↑(List.length x.1) : Int), (0 : Int), ())) fun y => T.ite (exEq y.1 (Ex.exit (0 : Nat))) (T.ret ErrD.nil) (T.ite (exEq y.1 Ex.ret) (T.ret y.2.1) T.fail)
noncomputable def scene_mats (x : ((List ((Int × Int × Int) × (Int × Int × Int) × Int)) × (List ((Int × Int × Int) × (Int × Int × Int) × (Int × Int × Int) × Int)) × (List (Int × Int × Int × Int)) × Int × (List (Int × Int × Int)) × ((Int × Int × Int) × (Int × Int × Int) × (Int × Int × Int) × Int × Int × Int) × Int × Int)) : Option (ErrD) := (scene_mats.t x).run
noncomputable def scene_mats.q : List AV → T AV := entry [TScn] (outR [TE]) fun x => .opt (scene_mats x) .ret
theorem scene_mats.ok : FnOK Tryz.prog 56 scene_mats.q :=
  entry_call (ps := [TScn]) (rs := [TE]) (F := ({ quiet := (ext (ext (ext (ext (ext Xs 80 scene_within.q) 81 scene_point.q) 79 scene_bound.q) 82 scene_broken.q) 100 scene_within_1.q), deep := noDeep } : Fns)) (D := D0) (S := tabS [(0, loopS scene_mats.L0 70 0 [.exit 0, .ret] scene_mats.l0)]) (t := scene_mats.t) mixed (quiet_ext (quiet_ext (quiet_ext (quiet_ext (quiet_ext Xok scene_within.ok) scene_point.ok) scene_bound.ok) scene_broken.ok) scene_within_1.ok) (deep_none _) Tryz.func56 (by kernel_rfl) (sok_fn ⟨scene_mats.k0, trivial⟩) (by kernel_rfl) (fun x => by kernel_rfl)
end Go.Proofs.Pen

namespace Go.Proofs.Pen
open Go Go.Proofs
noncomputable def scene_less.t (x : (Int × Int × Int) × (Int × Int × Int)) : T ((Int × Int × Int)) := T.ret (W (x.1.1 - x.2.1), W (x.1.2.1 - x.2.2.1), W (x.1.2.2 - x.2.2.2))
noncomputable def scene_less.q : List AV → T AV := entry [TP, TP] (outR [TP]) scene_less.t
theorem scene_less.ok : FnOK Tryz.prog 84 scene_less.q :=
  entry_in (ps := [TP, TP]) (rs := [TP]) (F := ({ quiet := Xs, deep := noDeep } : Fns)) (D := D0) (S := tabS []) (t := scene_less.t) mixed Xok (deep_none _) Tryz.func84 (by kernel_rfl) (sok_fn trivial) (by kernel_rfl) (fun x => by kernel_rfl)
end Go.Proofs.Pen

namespace Go.Proofs.Pen
open Go Go.Proofs
noncomputable def scene_flat.t (x : (Int × Int × Int) × (Int × Int × Int)) : T (Bool) := T.ret (W (W (x.1.2.1 * x.2.2.2) - W (x.1.2.2 * x.2.2.1)) == (0 : Int) && (W (W (x.1.2.2 * x.2.1) - W (x.1.1 * x.2.2.2)) == (0 : Int) && W (W (x.1.1 * x.2.2.1) - W (x.1.2.1 * x.2.1)) == (0 : Int)))
noncomputable def scene_flat.q : List AV → T AV := entry [TP, TP] (outR [.bool]) scene_flat.t
theorem scene_flat.ok : FnOK Tryz.prog 83 scene_flat.q :=
  entry_in (ps := [TP, TP]) (rs := [.bool]) (F := ({ quiet := Xs, deep := noDeep } : Fns)) (D := D0) (S := tabS []) (t := scene_flat.t) mixed Xok (deep_none _) Tryz.func83 (by kernel_rfl) (sok_fn trivial) (by kernel_rfl) (fun x => by kernel_rfl)
end Go.Proofs.Pen

namespace Go.Proofs.Pen
open Go Go.Proofs
def scene_tris.L0 : List (Nat × Lay) := [(1, .box TScn), (2, .val TE), (3, .val (.clo 100 (.pair (.ptr TI) (.ptr TI)))), (8, .val (.sl TTriD)), (9, .val TI), (10, .val TI)]
noncomputable def scene_tris.t0 (x : ((List ((Int × Int × Int) × (Int × Int × Int) × Int)) × (List ((Int × Int × Int) × (Int × Int × Int) × (Int × Int × Int) × Int)) × (List (Int × Int × Int × Int)) × Int × (List (Int × Int × Int)) × ((Int × Int × Int) × (Int × Int × Int) × (Int × Int × Int) × Int × Int × Int) × Int × Int) × ErrD × (Int × Int) × (List ((Int × Int × Int) × (Int × Int × Int) × (Int × Int × Int) × Int)) × Int × Int × Unit) : T (Ex × ((List ((Int × Int × Int) × (Int × Int × Int) × Int)) × (List ((Int × Int × Int) × (Int × Int × Int) × (Int × Int × Int) × Int)) × (List (Int × Int × Int × Int)) × Int × (List (Int × Int × Int)) × ((Int × Int × Int) × (Int × Int × Int) × (Int × Int × Int) × Int × Int × Int) × Int × Int) × ErrD × (Int × Int) × (List ((Int × Int × Int) × (Int × Int × Int) × (Int × Int × Int) × Int)) × Int × Int × Unit) := T.ite (decide (x.2.2.2.2.2.1 < x.2.2.2.2.1)) (T.opt (lget x.2.2.2.1 x.2.2.2.2.2.1) fun y => T.ite (decide (y.2.2.2 < (0 : Int)) || decide (y.2.2.2 ≥ (↑(List.length x.1.1) : Int))) (T.opt (scene_broken ((2 : Int), W (x.2.2.2.2.2.1 + (1 : Int)))) fun y => T.ret (Ex.ret, x.1, y, x.2.2.1, x.2.2.2.1, x.2.2.2.2.1, x.2.2.2.2.2.1, ())) (T.opt (scene_within_1 (List.take (3 : Nat) [y.1.1, y.1.2.1, y.1.2.2], x.2.2.1)) fun y_1 => T.ite (!y_1) (T.opt (scene_bound ((3 : Int), W (x.2.2.2.2.2.1 + (1 : Int)))) fun y => T.ret (Ex.ret, x.1, y, x.2.2.1, x.2.2.2.1, x.2.2.2.2.1, x.2.2.2.2.2.1, ())) (T.opt (scene_within_1 (List.take (3 : Nat) [y.2.1.1, y.2.1.2.1, y.2.1.2.2], x.2.2.1)) fun y_2 => T.ite (!y_2) (T.opt (scene_bound ((3 : Int), W (x.2.2.2.2.2.1 + (1 : Int)))) fun y => T.ret (Ex.ret, x.1, y, x.2.2.1, x.2.2.2.1, x.2.2.2.2.1, x.2.2.2.2.2.1, ())) (T.opt (scene_within_1 (List.take (3 : Nat) [y.2.2.1.1, y.2.2.1.2.1, y.2.2.1.2.2], x.2.2.1)) fun y_3 => T.ite (!y_3) (T.opt (scene_bound ((3 : Int), W (x.2.2.2.2.2.1 + (1 : Int)))) fun y => T.ret (Ex.ret, x.1, y, x.2.2.1, x.2.2.2.1, x.2.2.2.2.1, x.2.2.2.2.2.1, ())) (T.ite (W (W (W (y.2.1.2.1 - y.1.2.1) * W (y.2.2.1.2.2 - y.1.2.2)) - W (W (y.2.1.2.2 - y.1.2.2) * W (y.2.2.1.2.1 - y.1.2.1))) == (0 : Int) && (W (W (W (y.2.1.2.2 - y.1.2.2) * W (y.2.2.1.1 - y.1.1)) - W (W (y.2.1.1 - y.1.1) * W (y.2.2.1.2.2 - y.1.2.2))) == (0 : Int) && W (W (W (y.2.1.1 - y.1.1) * W (y.2.2.1.2.1 - y.1.2.1)) - W (W (y.2.1.2.1 - y.1.2.1) * W (y.2.2.1.1 - y.1.1))) == (0 : Int))) (T.opt (scene_broken ((13 : Int), W (x.2.2.2.2.2.1 + (1 : Int)))) fun y => T.ret (Ex.ret, x.1, y, x.2.2.1, x.2.2.2.1, x.2.2.2.2.1, x.2.2.2.2.2.1, ())) (T.ret (Ex.normal, x.1, x.2.1, x.2.2.1, x.2.2.2.1, x.2.2.2.2.1, W (x.2.2.2.2.2.1 + (1 : Int)), ()))))))) (T.ret (Ex.exit (0 : Nat), x.1, x.2.1, x.2.2.1, x.2.2.2.1, x.2.2.2.2.1, x.2.2.2.2.2.1, ()))
noncomputable def scene_tris.l0 (x : ((List ((Int × Int × Int) × (Int × Int × Int) × Int)) × (List ((Int × Int × Int) × (Int × Int × Int) × (Int × Int × Int) × Int)) × (List (Int × Int × Int × Int)) × Int × (List (Int × Int × Int)) × ((Int × Int × Int) × (Int × Int × Int) × (Int × Int × Int) × Int × Int × Int) × Int × Int) × ErrD × (Int × Int) × (List ((Int × Int × Int) × (Int × Int × Int) × (Int × Int × Int) × Int)) × Int × Int × Unit) : Option (Ex × ((List ((Int × Int × Int) × (Int × Int × Int) × Int)) × (List ((Int × Int × Int) × (Int × Int × Int) × (Int × Int × Int) × Int)) × (List (Int × Int × Int × Int)) × Int × (List (Int × Int × Int)) × ((Int × Int × Int) × (Int × Int × Int) × (Int × Int × Int) × Int × Int × Int) × Int × Int) × ErrD × (Int × Int) × (List ((Int × Int × Int) × (Int × Int × Int) × (Int × Int × Int) × Int)) × Int × Int × Unit) := (iterT scene_tris.t0 rounds x).run
theorem scene_tris.k0 : bodies 0 (lp Tryz.f57 []) = [.loop (loopIn 0 (lp Tryz.f57 []))] ∧ WP Tryz.prog 0 (.block 0 (.loop (loopIn 0 (lp Tryz.f57 [])))) (loopS scene_tris.L0 72 0 [.exit 0, .ret] scene_tris.l0) :=
  loop_tree (L := scene_tris.L0) (F := ({ quiet := (ext (ext (ext (ext (ext (ext (ext Xs 80 scene_within.q) 82 scene_broken.q) 81 scene_point.q) 79 scene_bound.q) 84 scene_less.q) 83 scene_flat.q) 100 scene_within_1.q), deep := noDeep } : Fns)) (D := D0) (tab := []) (t := scene_tris.t0) mixed (quiet_ext (quiet_ext (quiet_ext (quiet_ext (quiet_ext (quiet_ext (quiet_ext Xok scene_within.ok) scene_broken.ok) scene_point.ok) scene_bound.ok) scene_less.ok) scene_flat.ok) scene_within_1.ok) (deep_none _) (fun _ => rfl) (by kernel_rfl) (by kernel_rfl) trivial (fun x => by kernel_rfl)
noncomputable def scene_tris.t (x : ((List ((Int × Int × Int) × (Int × Int × Int) × Int)) × (List ((Int × Int × Int) × (Int × Int × Int) × (Int × Int × Int) × Int)) × (List (Int × Int × Int × Int)) × Int × (List (Int × Int × Int)) × ((Int × Int × Int) × (Int × Int × Int) × (Int × Int × Int) × Int × Int × Int) × Int × Int)) : T (ErrD) := T.opt (scene_tris.l0 (x, ErrD.nil, ((-1048576 : Int), (1048576 : Int)), x.2.1, (↑(List.length x.2.1) : Int), (0 : Int), ())) fun y => T.ite (exEq y.1 (Ex.exit (0 : Nat))) (T.ret ErrD.nil) (T.ite (exEq y.1 Ex.ret) (T.ret y.2.2.1) T.fail)
noncomputable def scene_tris (x : ((List ((Int × Int × Int) × (Int × Int × Int) × Int)) × (List ((Int × Int × Int) × (Int × Int × Int) × (Int × Int × Int) × Int)) × (List (Int × Int × Int × Int)) × Int × (List (Int × Int × Int)) × ((Int × Int × Int) × (Int × Int × Int) × (Int × Int × Int) × Int × Int × Int) × Int × Int)) : Option (ErrD) := (scene_tris.t x).run
noncomputable def scene_tris.q : List AV → T AV := entry [TScn] (outR [TE]) fun x => .opt (scene_tris x) .ret
theorem scene_tris.ok : FnOK Tryz.prog 57 scene_tris.q :=
  entry_call (ps := [TScn]) (rs := [TE]) (F := ({ quiet := (ext (ext (ext (ext (ext (ext (ext Xs 80 scene_within.q) 82 scene_broken.q) 81 scene_point.q) 79 scene_bound.q) 84 scene_less.q) 83 scene_flat.q) 100 scene_within_1.q), deep := noDeep } : Fns)) (D := D0) (S := tabS [(0, loopS scene_tris.L0 72 0 [.exit 0, .ret] scene_tris.l0)]) (t := scene_tris.t) mixed (quiet_ext (quiet_ext (quiet_ext (quiet_ext (quiet_ext (quiet_ext (quiet_ext Xok scene_within.ok) scene_broken.ok) scene_point.ok) scene_bound.ok) scene_less.ok) scene_flat.ok) scene_within_1.ok) (deep_none _) Tryz.func57 (by kernel_rfl) (sok_fn ⟨scene_tris.k0, trivial⟩) (by kernel_rfl) (fun x => by kernel_rfl)
end Go.Proofs.Pen

namespace Go.Proofs.Pen
open Go Go.Proofs
noncomputable def scene_lights_1.t (x : (Int × Int × Int × Int) × (Int × Int × Int × Int)) : T (Bool) := T.ret (x.2.1 == x.1.1)
noncomputable def scene_lights_1.q : List AV → T AV := entry [TLitD, (.ptr TLitD)] (outR [.bool]) scene_lights_1.t
theorem scene_lights_1.ok : FnOK Tryz.prog 86 scene_lights_1.q :=
  entry_in (ps := [TLitD, (.ptr TLitD)]) (rs := [.bool]) (F := ({ quiet := Xs, deep := noDeep } : Fns)) (D := D0) (S := tabS []) (t := scene_lights_1.t) mixed Xok (deep_none _) Tryz.func86 (by kernel_rfl) (sok_fn trivial) (by kernel_rfl) (fun x => by kernel_rfl)
end Go.Proofs.Pen

namespace Go.Proofs.Pen
open Go Go.Proofs
def IdxL.L0 : List (Nat × Lay) := [(0, .val (.sl TLitD)), (1, .val (.clo 86 (.ptr TLitD))), (4, .val TI), (7, .val TI), (8, .val TI)]
noncomputable def IdxL.t0 (x : (List (Int × Int × Int × Int)) × (Int × Int × Int × Int) × Int × Int × Int × Unit) : T (Ex × (List (Int × Int × Int × Int)) × (Int × Int × Int × Int) × Int × Int × Int × Unit) := T.ite (decide (x.2.2.2.2.1 < x.2.2.2.1)) (T.opt (lget x.1 x.2.2.2.2.1) fun y => T.ite (x.2.1.1 == y.1) (T.ret (Ex.ret, x.1, x.2.1, x.2.2.2.2.1, x.2.2.2.1, x.2.2.2.2.1, ())) (T.ret (Ex.normal, x.1, x.2.1, x.2.2.1, x.2.2.2.1, W (x.2.2.2.2.1 + (1 : Int)), ()))) (T.ret (Ex.exit (0 : Nat), x.1, x.2.1, x.2.2.1, x.2.2.2.1, x.2.2.2.2.1, ()))
noncomputable def IdxL.l0 (x : (List (Int × Int × Int × Int)) × (Int × Int × Int × Int) × Int × Int × Int × Unit) : Option (Ex × (List (Int × Int × Int × Int)) × (Int × Int × Int × Int) × Int × Int × Int × Unit) := (iterT IdxL.t0 rounds x).run
theorem IdxL.k0 : bodies 0 (lp Tryz.f103 []) = [.loop (loopIn 0 (lp Tryz.f103 []))] ∧ WP Tryz.prog 0 (.block 0 (.loop (loopIn 0 (lp Tryz.f103 [])))) (loopS IdxL.L0 19 0 [.exit 0, .ret] IdxL.l0) :=
  loop_tree (L := IdxL.L0) (F := ({ quiet := (ext Xs 86 scene_lights_1.q), deep := noDeep } : Fns)) (D := D0) (tab := []) (t := IdxL.t0) mixed (quiet_ext Xok scene_lights_1.ok) (deep_none _) (fun _ => rfl) (by kernel_rfl) (by kernel_rfl) trivial (fun x => by kernel_rfl)
noncomputable def IdxL.t (x : (List (Int × Int × Int × Int)) × (Int × Int × Int × Int)) : T (Int) := T.opt (IdxL.l0 (x.1, x.2, (0 : Int), (↑(List.length x.1) : Int), (0 : Int), ())) fun y => T.ite (exEq y.1 (Ex.exit (0 : Nat))) (T.ret (-1 : Int)) (T.ite (exEq y.1 Ex.ret) (T.ret y.2.2.2.1) T.fail)
noncomputable def IdxL (x : (List (Int × Int × Int × Int)) × (Int × Int × Int × Int)) : Option (Int) := (IdxL.t x).run
noncomputable def IdxL.q : List AV → T AV := entry [(.sl TLitD), (.clo 86 (.ptr TLitD))] (outR [TI]) fun x => .opt (IdxL x) .ret
theorem IdxL.ok : FnOK Tryz.prog 103 IdxL.q :=
  entry_call (ps := [(.sl TLitD), (.clo 86 (.ptr TLitD))]) (rs := [TI]) (F := ({ quiet := (ext Xs 86 scene_lights_1.q), deep := noDeep } : Fns)) (D := D0) (S := tabS [(0, loopS IdxL.L0 19 0 [.exit 0, .ret] IdxL.l0)]) (t := IdxL.t) mixed (quiet_ext Xok scene_lights_1.ok) (deep_none _) Tryz.func103 (by kernel_rfl) (sok_fn ⟨IdxL.k0, trivial⟩) (by kernel_rfl) (fun x => by kernel_rfl)
end Go.Proofs.Pen

namespace Go.Proofs.Pen
open Go Go.Proofs
noncomputable def ConL.t (x : (List (Int × Int × Int × Int)) × (Int × Int × Int × Int)) : T (Bool) := T.opt (IdxL x) fun y => T.ret (decide (y ≥ (0 : Int)))
noncomputable def ConL (x : (List (Int × Int × Int × Int)) × (Int × Int × Int × Int)) : Option (Bool) := (ConL.t x).run
noncomputable def ConL.q : List AV → T AV := entry [(.sl TLitD), (.clo 86 (.ptr TLitD))] (outR [.bool]) fun x => .opt (ConL x) .ret
theorem ConL.ok : FnOK Tryz.prog 85 ConL.q :=
  entry_call (ps := [(.sl TLitD), (.clo 86 (.ptr TLitD))]) (rs := [.bool]) (F := ({ quiet := (ext (ext Xs 103 IdxL.q) 86 scene_lights_1.q), deep := noDeep } : Fns)) (D := D0) (S := tabS []) (t := ConL.t) mixed (quiet_ext (quiet_ext Xok IdxL.ok) scene_lights_1.ok) (deep_none _) Tryz.func85 (by kernel_rfl) (sok_fn trivial) (by kernel_rfl) (fun x => by kernel_rfl)
end Go.Proofs.Pen

namespace Go.Proofs.Pen
open Go Go.Proofs
def scene_lights.L0 : List (Nat × Lay) := [(1, .box TScn), (2, .val TE), (3, .val (.clo 100 (.pair (.ptr TI) (.ptr TI)))), (11, .val (.sl TLitD)), (12, .val TI), (13, .val TI)]
noncomputable def scene_lights.t0 (x : ((List ((Int × Int × Int) × (Int × Int × Int) × Int)) × (List ((Int × Int × Int) × (Int × Int × Int) × (Int × Int × Int) × Int)) × (List (Int × Int × Int × Int)) × Int × (List (Int × Int × Int)) × ((Int × Int × Int) × (Int × Int × Int) × (Int × Int × Int) × Int × Int × Int) × Int × Int) × ErrD × (Int × Int) × (List (Int × Int × Int × Int)) × Int × Int × Unit) : T (Ex × ((List ((Int × Int × Int) × (Int × Int × Int) × Int)) × (List ((Int × Int × Int) × (Int × Int × Int) × (Int × Int × Int) × Int)) × (List (Int × Int × Int × Int)) × Int × (List (Int × Int × Int)) × ((Int × Int × Int) × (Int × Int × Int) × (Int × Int × Int) × Int × Int × Int) × Int × Int) × ErrD × (Int × Int) × (List (Int × Int × Int × Int)) × Int × Int × Unit) := T.ite (decide (x.2.2.2.2.2.1 < x.2.2.2.2.1)) (T.opt (lget x.2.2.2.1 x.2.2.2.2.2.1) fun y => T.ite (decide ((0 : Int) ≤ (0 : Int)) && decide ((0 : Int) ≤ x.2.2.2.2.2.1) && decide (x.2.2.2.2.2.1 ≤ (↑(List.length x.1.2.2.1) : Int))) (T.opt (ConL (List.take (Int.toNat x.2.2.2.2.2.1 - Int.toNat (0 : Int)) (List.drop (Int.toNat (0 : Int)) x.1.2.2.1), y)) fun y_1 => T.ite (decide (y.1 < (0 : Int)) || decide (y.1 ≥ (↑(List.length x.1.2.1) : Int)) || y_1) (T.opt (scene_broken ((2 : Int), W (x.2.2.2.2.2.1 + (1 : Int)))) fun y => T.ret (Ex.ret, x.1, y, x.2.2.1, x.2.2.2.1, x.2.2.2.2.1, x.2.2.2.2.2.1, ())) (T.opt (scene_within_1 (List.take (3 : Nat) [y.2.1, y.2.2.1, y.2.2.2], x.2.2.1)) fun y => T.ite (!y) (T.opt (scene_bound ((3 : Int), W (x.2.2.2.2.2.1 + (1 : Int)))) fun y => T.ret (Ex.ret, x.1, y, x.2.2.1, x.2.2.2.1, x.2.2.2.2.1, x.2.2.2.2.2.1, ())) (T.ret (Ex.normal, x.1, x.2.1, x.2.2.1, x.2.2.2.1, x.2.2.2.2.1, W (x.2.2.2.2.2.1 + (1 : Int)), ())))) T.fail) (T.ret (Ex.exit (0 : Nat), x.1, x.2.1, x.2.2.1, x.2.2.2.1, x.2.2.2.2.1, x.2.2.2.2.2.1, ()))
noncomputable def scene_lights.l0 (x : ((List ((Int × Int × Int) × (Int × Int × Int) × Int)) × (List ((Int × Int × Int) × (Int × Int × Int) × (Int × Int × Int) × Int)) × (List (Int × Int × Int × Int)) × Int × (List (Int × Int × Int)) × ((Int × Int × Int) × (Int × Int × Int) × (Int × Int × Int) × Int × Int × Int) × Int × Int) × ErrD × (Int × Int) × (List (Int × Int × Int × Int)) × Int × Int × Unit) : Option (Ex × ((List ((Int × Int × Int) × (Int × Int × Int) × Int)) × (List ((Int × Int × Int) × (Int × Int × Int) × (Int × Int × Int) × Int)) × (List (Int × Int × Int × Int)) × Int × (List (Int × Int × Int)) × ((Int × Int × Int) × (Int × Int × Int) × (Int × Int × Int) × Int × Int × Int) × Int × Int) × ErrD × (Int × Int) × (List (Int × Int × Int × Int)) × Int × Int × Unit) := (iterT scene_lights.t0 rounds x).run
theorem scene_lights.k0 : bodies 0 (lp Tryz.f58 []) = [.loop (loopIn 0 (lp Tryz.f58 []))] ∧ WP Tryz.prog 0 (.block 0 (.loop (loopIn 0 (lp Tryz.f58 [])))) (loopS scene_lights.L0 80 0 [.exit 0, .ret] scene_lights.l0) :=
  loop_tree (L := scene_lights.L0) (F := ({ quiet := (ext (ext (ext (ext (ext (ext (ext Xs 80 scene_within.q) 86 scene_lights_1.q) 85 ConL.q) 82 scene_broken.q) 81 scene_point.q) 79 scene_bound.q) 100 scene_within_1.q), deep := noDeep } : Fns)) (D := D0) (tab := []) (t := scene_lights.t0) mixed (quiet_ext (quiet_ext (quiet_ext (quiet_ext (quiet_ext (quiet_ext (quiet_ext Xok scene_within.ok) scene_lights_1.ok) ConL.ok) scene_broken.ok) scene_point.ok) scene_bound.ok) scene_within_1.ok) (deep_none _) (fun _ => rfl) (by kernel_rfl) (by kernel_rfl) trivial (fun x => by kernel_rfl)
def scene_lights.L2 : List (Nat × Lay) := [(2, .val TE), (3, .val (.clo 100 (.pair (.ptr TI) (.ptr TI)))), (64, .val (.sl TP)), (65, .val TI), (66, .val TI)]
noncomputable def scene_lights.t2 (x : ErrD × (Int × Int) × (List (Int × Int × Int)) × Int × Int × Unit) : T (Ex × ErrD × (Int × Int) × (List (Int × Int × Int)) × Int × Int × Unit) := T.ite (decide (x.2.2.2.2.1 < x.2.2.2.1)) (T.opt (lget x.2.2.1 x.2.2.2.2.1) fun y => T.opt (scene_within_1 (List.take (3 : Nat) [y.1, y.2.1, y.2.2], x.2.1)) fun y => T.ite (!y) (T.opt (scene_bound ((3 : Int), W (x.2.2.2.2.1 + (1 : Int)))) fun y => T.ret (Ex.ret, y, x.2.1, x.2.2.1, x.2.2.2.1, x.2.2.2.2.1, ())) (T.ret (Ex.normal, x.1, x.2.1, x.2.2.1, x.2.2.2.1, W (x.2.2.2.2.1 + (1 : Int)), ()))) (T.ret (Ex.exit (2 : Nat), x.1, x.2.1, x.2.2.1, x.2.2.2.1, x.2.2.2.2.1, ()))
noncomputable def scene_lights.l2 (x : ErrD × (Int × Int) × (List (Int × Int × Int)) × Int × Int × Unit) : Option (Ex × ErrD × (Int × Int) × (List (Int × Int × Int)) × Int × Int × Unit) := (iterT scene_lights.t2 rounds x).run
theorem scene_lights.k2 : bodies 2 (lp Tryz.f58 []) = [.loop (loopIn 2 (lp Tryz.f58 []))] ∧ WP Tryz.prog 0 (.block 2 (.loop (loopIn 2 (lp Tryz.f58 [])))) (loopS scene_lights.L2 80 2 [.exit 2, .ret] scene_lights.l2) :=
  loop_tree (L := scene_lights.L2) (F := ({ quiet := (ext (ext (ext (ext (ext (ext (ext Xs 80 scene_within.q) 86 scene_lights_1.q) 85 ConL.q) 82 scene_broken.q) 81 scene_point.q) 79 scene_bound.q) 100 scene_within_1.q), deep := noDeep } : Fns)) (D := D0) (tab := []) (t := scene_lights.t2) mixed (quiet_ext (quiet_ext (quiet_ext (quiet_ext (quiet_ext (quiet_ext (quiet_ext Xok scene_within.ok) scene_lights_1.ok) ConL.ok) scene_broken.ok) scene_point.ok) scene_bound.ok) scene_within_1.ok) (deep_none _) (fun _ => rfl) (by kernel_rfl) (by kernel_rfl) trivial (fun x => by kernel_rfl)
noncomputable def scene_lights.t (x : ((List ((Int × Int × Int) × (Int × Int × Int) × Int)) × (List ((Int × Int × Int) × (Int × Int × Int) × (Int × Int × Int) × Int)) × (List (Int × Int × Int × Int)) × Int × (List (Int × Int × Int)) × ((Int × Int × Int) × (Int × Int × Int) × (Int × Int × Int) × Int × Int × Int) × Int × Int)) : T (ErrD) := T.opt (scene_lights.l0 (x, ErrD.nil, ((0 : Int), (67108863 : Int)), x.2.2.1, (↑(List.length x.2.2.1) : Int), (0 : Int), ())) fun y => T.ite (exEq y.1 (Ex.exit (0 : Nat))) (T.ite (decide (y.2.1.2.2.2.1 < (0 : Int))) (T.opt (scene_bound ((3 : Int), (0 : Int))) fun y => T.ret y) (T.ite ((↑(List.length y.2.1.2.2.2.2.1) : Int) != W ((8 : Int) * y.2.1.2.2.2.1)) (T.opt (scene_broken ((14 : Int), (0 : Int))) fun y => T.ret y) (T.opt (scene_lights.l2 (y.2.2.1, y.2.2.2.1, y.2.1.2.2.2.2.1, (↑(List.length y.2.1.2.2.2.2.1) : Int), (0 : Int), ())) fun y => T.ite (exEq y.1 (Ex.exit (2 : Nat))) (T.ret ErrD.nil) (T.ite (exEq y.1 Ex.ret) (T.ret y.2.1) T.fail)))) (T.ite (exEq y.1 Ex.ret) (T.ret y.2.2.1) T.fail)
noncomputable def scene_lights (x : ((List ((Int × Int × Int) × (Int × Int × Int) × Int)) × (List ((Int × Int × Int) × (Int × Int × Int) × (Int × Int × Int) × Int)) × (List (Int × Int × Int × Int)) × Int × (List (Int × Int × Int)) × ((Int × Int × Int) × (Int × Int × Int) × (Int × Int × Int) × Int × Int × Int) × Int × Int)) : Option (ErrD) := (scene_lights.t x).run
noncomputable def scene_lights.q : List AV → T AV := entry [TScn] (outR [TE]) fun x => .opt (scene_lights x) .ret
theorem scene_lights.ok : FnOK Tryz.prog 58 scene_lights.q :=
  entry_call (ps := [TScn]) (rs := [TE]) (F := ({ quiet := (ext (ext (ext (ext (ext (ext (ext Xs 80 scene_within.q) 86 scene_lights_1.q) 85 ConL.q) 82 scene_broken.q) 81 scene_point.q) 79 scene_bound.q) 100 scene_within_1.q), deep := noDeep } : Fns)) (D := D0) (S := tabS [(0, loopS scene_lights.L0 80 0 [.exit 0, .ret] scene_lights.l0), (2, loopS scene_lights.L2 80 2 [.exit 2, .ret] scene_lights.l2)]) (t := scene_lights.t) mixed (quiet_ext (quiet_ext (quiet_ext (quiet_ext (quiet_ext (quiet_ext (quiet_ext Xok scene_within.ok) scene_lights_1.ok) ConL.ok) scene_broken.ok) scene_point.ok) scene_bound.ok) scene_within_1.ok) (deep_none _) Tryz.func58 (by kernel_rfl) (sok_fn ⟨scene_lights.k0, scene_lights.k2, trivial⟩) (by kernel_rfl) (fun x => by kernel_rfl)
end Go.Proofs.Pen

namespace Go.Proofs.Pen
open Go Go.Proofs
noncomputable def scene_camera.t (x : ((List ((Int × Int × Int) × (Int × Int × Int) × Int)) × (List ((Int × Int × Int) × (Int × Int × Int) × (Int × Int × Int) × Int)) × (List (Int × Int × Int × Int)) × Int × (List (Int × Int × Int)) × ((Int × Int × Int) × (Int × Int × Int) × (Int × Int × Int) × Int × Int × Int) × Int × Int)) : T (ErrD) := T.opt (scene_within_1 (List.take (3 : Nat) [x.2.2.2.2.2.1.1.1, x.2.2.2.2.2.1.1.2.1, x.2.2.2.2.2.1.1.2.2], (-1048576 : Int), (1048576 : Int))) fun y => T.ite (!y) (T.opt (scene_bound ((3 : Int), (0 : Int))) fun y => T.ret y) (T.opt (scene_within_1 (List.take (3 : Nat) [x.2.2.2.2.2.1.2.1.1, x.2.2.2.2.2.1.2.1.2.1, x.2.2.2.2.2.1.2.1.2.2], (-1048576 : Int), (1048576 : Int))) fun y => T.ite (!y) (T.opt (scene_bound ((3 : Int), (0 : Int))) fun y => T.ret y) (T.opt (scene_within_1 (List.take (3 : Nat) [x.2.2.2.2.2.1.2.2.1.1, x.2.2.2.2.2.1.2.2.1.2.1, x.2.2.2.2.2.1.2.2.1.2.2], (-1048576 : Int), (1048576 : Int))) fun y => T.ite (!y) (T.opt (scene_bound ((3 : Int), (0 : Int))) fun y => T.ret y) (T.opt (scene_within_1 (List.take (2 : Nat) [x.2.2.2.2.2.1.2.2.2.1, x.2.2.2.2.2.1.2.2.2.2.2], (1 : Int), (1048576 : Int))) fun y => T.ite (!y) (T.opt (scene_bound ((3 : Int), (0 : Int))) fun y => T.ret y) (T.opt (scene_within_1 ([x.2.2.2.2.2.1.2.2.2.2.1], (0 : Int), (1048576 : Int))) fun y => T.ite (!y) (T.opt (scene_bound ((3 : Int), (0 : Int))) fun y => T.ret y) (T.ite (W (W (W (x.2.2.2.2.2.1.2.1.2.1 - x.2.2.2.2.2.1.1.2.1) * x.2.2.2.2.2.1.2.2.1.2.2) - W (W (x.2.2.2.2.2.1.2.1.2.2 - x.2.2.2.2.2.1.1.2.2) * x.2.2.2.2.2.1.2.2.1.2.1)) == (0 : Int) && (W (W (W (x.2.2.2.2.2.1.2.1.2.2 - x.2.2.2.2.2.1.1.2.2) * x.2.2.2.2.2.1.2.2.1.1) - W (W (x.2.2.2.2.2.1.2.1.1 - x.2.2.2.2.2.1.1.1) * x.2.2.2.2.2.1.2.2.1.2.2)) == (0 : Int) && W (W (W (x.2.2.2.2.2.1.2.1.1 - x.2.2.2.2.2.1.1.1) * x.2.2.2.2.2.1.2.2.1.2.1) - W (W (x.2.2.2.2.2.1.2.1.2.1 - x.2.2.2.2.2.1.1.2.1) * x.2.2.2.2.2.1.2.2.1.1)) == (0 : Int))) (T.opt (scene_broken ((13 : Int), (0 : Int))) fun y => T.ret y) (T.ite (x.2.2.2.2.2.2.1 != (1 : Int) && x.2.2.2.2.2.2.1 != (2 : Int)) (T.opt (scene_broken ((2 : Int), (0 : Int))) fun y => T.ret y) (T.opt (scene_within_1 ([x.2.2.2.2.2.2.2], (1 : Int), (8192 : Int))) fun y => T.ite (!y) (T.opt (scene_bound ((3 : Int), (0 : Int))) fun y => T.ret y) (T.ret ErrD.nil))))))))
noncomputable def scene_camera (x : ((List ((Int × Int × Int) × (Int × Int × Int) × Int)) × (List ((Int × Int × Int) × (Int × Int × Int) × (Int × Int × Int) × Int)) × (List (Int × Int × Int × Int)) × Int × (List (Int × Int × Int)) × ((Int × Int × Int) × (Int × Int × Int) × (Int × Int × Int) × Int × Int × Int) × Int × Int)) : Option (ErrD) := (scene_camera.t x).run
noncomputable def scene_camera.q : List AV → T AV := entry [TScn] (outR [TE]) fun x => .opt (scene_camera x) .ret
theorem scene_camera.ok : FnOK Tryz.prog 59 scene_camera.q :=
  entry_call (ps := [TScn]) (rs := [TE]) (F := ({ quiet := (ext (ext (ext (ext (ext (ext (ext Xs 80 scene_within.q) 81 scene_point.q) 79 scene_bound.q) 84 scene_less.q) 83 scene_flat.q) 82 scene_broken.q) 100 scene_within_1.q), deep := noDeep } : Fns)) (D := D0) (S := tabS []) (t := scene_camera.t) mixed (quiet_ext (quiet_ext (quiet_ext (quiet_ext (quiet_ext (quiet_ext (quiet_ext Xok scene_within.ok) scene_point.ok) scene_bound.ok) scene_less.ok) scene_flat.ok) scene_broken.ok) scene_within_1.ok) (deep_none _) Tryz.func59 (by kernel_rfl) (sok_fn trivial) (by kernel_rfl) (fun x => by kernel_rfl)
end Go.Proofs.Pen

namespace Go.Proofs.Pen
open Go Go.Proofs
noncomputable def scene_Check.t (x : ((List ((Int × Int × Int) × (Int × Int × Int) × Int)) × (List ((Int × Int × Int) × (Int × Int × Int) × (Int × Int × Int) × Int)) × (List (Int × Int × Int × Int)) × Int × (List (Int × Int × Int)) × ((Int × Int × Int) × (Int × Int × Int) × (Int × Int × Int) × Int × Int × Int) × Int × Int)) : T (ErrD) := T.opt (scene_many x) fun y => T.ite (!y.isNil) (T.ret y) (T.opt (scene_mats x) fun y => T.ite (!y.isNil) (T.ret y) (T.opt (scene_tris x) fun y => T.ite (!y.isNil) (T.ret y) (T.opt (scene_lights x) fun y => T.ite (!y.isNil) (T.ret y) (T.opt (scene_camera x) fun y => T.ret y))))
noncomputable def scene_Check (x : ((List ((Int × Int × Int) × (Int × Int × Int) × Int)) × (List ((Int × Int × Int) × (Int × Int × Int) × (Int × Int × Int) × Int)) × (List (Int × Int × Int × Int)) × Int × (List (Int × Int × Int)) × ((Int × Int × Int) × (Int × Int × Int) × (Int × Int × Int) × Int × Int × Int) × Int × Int)) : Option (ErrD) := (scene_Check.t x).run
noncomputable def scene_Check.q : List AV → T AV := entry [TScn] (outR [TE]) fun x => .opt (scene_Check x) .ret
theorem scene_Check.ok : FnOK Tryz.prog 33 scene_Check.q :=
  entry_call (ps := [TScn]) (rs := [TE]) (F := ({ quiet := (ext (ext (ext (ext (ext (ext (ext Xs 55 scene_many.q) 56 scene_mats.q) 57 scene_tris.q) 58 scene_lights.q) 59 scene_camera.q) 86 scene_lights_1.q) 100 scene_within_1.q), deep := noDeep } : Fns)) (D := D0) (S := tabS []) (t := scene_Check.t) mixed (quiet_ext (quiet_ext (quiet_ext (quiet_ext (quiet_ext (quiet_ext (quiet_ext Xok scene_many.ok) scene_mats.ok) scene_tris.ok) scene_lights.ok) scene_camera.ok) scene_lights_1.ok) scene_within_1.ok) (deep_none _) Tryz.func33 (by kernel_rfl) (sok_fn trivial) (by kernel_rfl) (fun x => by kernel_rfl)
theorem scene_Check.okF : FrOK Tryz.prog 33 scene_Check.q :=
  entry_fresh (ps := [TScn]) (rs := [TE]) (F := ({ quiet := (ext (ext (ext (ext (ext (ext (ext Xs 55 scene_many.q) 56 scene_mats.q) 57 scene_tris.q) 58 scene_lights.q) 59 scene_camera.q) 86 scene_lights_1.q) 100 scene_within_1.q), deep := noDeep } : Fns)) (D := D0) (S := tabS []) (t := scene_Check.t) mixed (quiet_ext (quiet_ext (quiet_ext (quiet_ext (quiet_ext (quiet_ext (quiet_ext Xok scene_many.ok) scene_mats.ok) scene_tris.ok) scene_lights.ok) scene_camera.ok) scene_lights_1.ok) scene_within_1.ok) (deep_none _) Tryz.func33 (by kernel_rfl) (sok_fn trivial) (by kernel_rfl) (fun x => by kernel_rfl) entry_run
end Go.Proofs.Pen

namespace Go.Proofs.Pen
open Go Go.Proofs
noncomputable def ref22_bound.t (x : Int × Int) : T ((Int × Int × Int)) := T.ret ((10 : Int), x)
noncomputable def ref22_bound.q : List AV → T AV := entry [TI, TI] (outR [TP]) ref22_bound.t
theorem ref22_bound.ok : FnOK Tryz.prog 22 ref22_bound.q :=
  entry_in (ps := [TI, TI]) (rs := [TP]) (F := ({ quiet := Xs, deep := noDeep } : Fns)) (D := D0) (S := tabS []) (t := ref22_bound.t) mixed Xok (deep_none _) Tryz.func22 (by kernel_rfl) (sok_fn trivial) (by kernel_rfl) (fun x => by kernel_rfl)
end Go.Proofs.Pen

namespace Go.Proofs.Pen
open Go Go.Proofs
noncomputable def ref22_In.t (x : (Int × Int × Int) × Int × Int) : T (Bool) := T.ret (decide (x.1.1 ≥ x.2.1) && decide (x.1.1 ≤ x.2.2) && decide (x.1.2.1 ≥ x.2.1) && decide (x.1.2.1 ≤ x.2.2) && decide (x.1.2.2 ≥ x.2.1) && decide (x.1.2.2 ≤ x.2.2))
noncomputable def ref22_In.q : List AV → T AV := entry [TP, TI, TI] (outR [.bool]) ref22_In.t
theorem ref22_In.ok : FnOK Tryz.prog 44 ref22_In.q :=
  entry_in (ps := [TP, TI, TI]) (rs := [.bool]) (F := ({ quiet := Xs, deep := noDeep } : Fns)) (D := D0) (S := tabS []) (t := ref22_In.t) mixed Xok (deep_none _) Tryz.func44 (by kernel_rfl) (sok_fn trivial) (by kernel_rfl) (fun x => by kernel_rfl)
end Go.Proofs.Pen

namespace Go.Proofs.Pen
open Go Go.Proofs
noncomputable def ref22_broken.t (x : Int × Int) : T ((Int × Int × Int)) := T.ret ((11 : Int), x)
noncomputable def ref22_broken.q : List AV → T AV := entry [TI, TI] (outR [TP]) ref22_broken.t
theorem ref22_broken.ok : FnOK Tryz.prog 45 ref22_broken.q :=
  entry_in (ps := [TI, TI]) (rs := [TP]) (F := ({ quiet := Xs, deep := noDeep } : Fns)) (D := D0) (S := tabS []) (t := ref22_broken.t) mixed Xok (deep_none _) Tryz.func45 (by kernel_rfl) (sok_fn trivial) (by kernel_rfl) (fun x => by kernel_rfl)
end Go.Proofs.Pen

namespace Go.Proofs.Pen
open Go Go.Proofs
noncomputable def ref22_mat.t (x : ((Int × Int × Int) × (Int × Int × Int) × Int) × Int) : T ((Int × Int × Int)) := T.ite (decide (x.1.2.2 < (1 : Int)) || decide (x.1.2.2 > (1024 : Int))) (T.ret ((10 : Int), (3 : Int), x.2)) (T.ite (!(decide (x.1.1.1 ≥ (0 : Int)) && decide (x.1.1.1 ≤ (9223372036854775807 : Int)) && decide (x.1.1.2.1 ≥ (0 : Int)) && decide (x.1.1.2.1 ≤ (9223372036854775807 : Int)) && decide (x.1.1.2.2 ≥ (0 : Int)) && decide (x.1.1.2.2 ≤ (9223372036854775807 : Int)))) (T.ret ((10 : Int), (3 : Int), x.2)) (T.ite (!(decide (x.1.2.1.1 ≥ (0 : Int)) && decide (x.1.2.1.1 ≤ (9223372036854775807 : Int)) && decide (x.1.2.1.2.1 ≥ (0 : Int)) && decide (x.1.2.1.2.1 ≤ (9223372036854775807 : Int)) && decide (x.1.2.1.2.2 ≥ (0 : Int)) && decide (x.1.2.1.2.2 ≤ (9223372036854775807 : Int)))) (T.ret ((10 : Int), (3 : Int), x.2)) (T.ite (!(decide (x.1.1.1 ≥ (0 : Int)) && decide (x.1.1.1 ≤ (1023 : Int)) && decide (x.1.1.2.1 ≥ (0 : Int)) && decide (x.1.1.2.1 ≤ (1023 : Int)) && decide (x.1.1.2.2 ≥ (0 : Int)) && decide (x.1.1.2.2 ≤ (1023 : Int))) || decide (x.1.2.1.1 > W ((1023 : Int) - x.1.1.1)) || decide (x.1.2.1.2.1 > W ((1023 : Int) - x.1.1.2.1)) || decide (x.1.2.1.2.2 > W ((1023 : Int) - x.1.1.2.2))) (T.ret ((11 : Int), (4 : Int), x.2)) (T.ret ((0 : Int), (0 : Int), (0 : Int))))))
noncomputable def ref22_mat (x : ((Int × Int × Int) × (Int × Int × Int) × Int) × Int) : Option ((Int × Int × Int)) := (ref22_mat.t x).run
noncomputable def ref22_mat.q : List AV → T AV := entry [TMatD, TI] (outR [TP]) fun x => .opt (ref22_mat x) .ret
theorem ref22_mat.ok : FnOK Tryz.prog 23 ref22_mat.q :=
  entry_call (ps := [TMatD, TI]) (rs := [TP]) (F := ({ quiet := (ext (ext (ext Xs 44 ref22_In.q) 22 ref22_bound.q) 45 ref22_broken.q), deep := noDeep } : Fns)) (D := D0) (S := tabS []) (t := ref22_mat.t) mixed (quiet_ext (quiet_ext (quiet_ext Xok ref22_In.ok) ref22_bound.ok) ref22_broken.ok) (deep_none _) Tryz.func23 (by kernel_rfl) (sok_fn trivial) (by kernel_rfl) (fun x => by kernel_rfl)
end Go.Proofs.Pen

namespace Go.Proofs.Pen
open Go Go.Proofs
noncomputable def ref22_Flat.t (x : (Int × Int × Int) × (Int × Int × Int) × (Int × Int × Int) × (Int × Int × Int)) : T (Bool) := T.ret (W (W (x.1.2.1 - x.2.1.2.1) * W (x.2.2.1.2.2 - x.2.2.2.2.2)) == W (W (x.1.2.2 - x.2.1.2.2) * W (x.2.2.1.2.1 - x.2.2.2.2.1)) && W (W (x.1.2.2 - x.2.1.2.2) * W (x.2.2.1.1 - x.2.2.2.1)) == W (W (x.1.1 - x.2.1.1) * W (x.2.2.1.2.2 - x.2.2.2.2.2)) && W (W (x.1.1 - x.2.1.1) * W (x.2.2.1.2.1 - x.2.2.2.2.1)) == W (W (x.1.2.1 - x.2.1.2.1) * W (x.2.2.1.1 - x.2.2.2.1)))
noncomputable def ref22_Flat.q : List AV → T AV := entry [TP, TP, TP, TP] (outR [.bool]) ref22_Flat.t
theorem ref22_Flat.ok : FnOK Tryz.prog 46 ref22_Flat.q :=
  entry_in (ps := [TP, TP, TP, TP]) (rs := [.bool]) (F := ({ quiet := Xs, deep := noDeep } : Fns)) (D := D0) (S := tabS []) (t := ref22_Flat.t) mixed Xok (deep_none _) Tryz.func46 (by kernel_rfl) (sok_fn trivial) (by kernel_rfl) (fun x => by kernel_rfl)
end Go.Proofs.Pen

namespace Go.Proofs.Pen
open Go Go.Proofs
noncomputable def ref22_tri.t (x : ((Int × Int × Int) × (Int × Int × Int) × (Int × Int × Int) × Int) × Int × Int) : T ((Int × Int × Int)) := T.ite (decide (x.1.2.2.2 < (0 : Int)) || decide (x.1.2.2.2 ≥ x.2.1)) (T.ret ((11 : Int), (2 : Int), x.2.2)) (T.ite (!(decide (x.1.1.1 ≥ (-1048576 : Int)) && decide (x.1.1.1 ≤ (1048576 : Int)) && decide (x.1.1.2.1 ≥ (-1048576 : Int)) && decide (x.1.1.2.1 ≤ (1048576 : Int)) && decide (x.1.1.2.2 ≥ (-1048576 : Int)) && decide (x.1.1.2.2 ≤ (1048576 : Int)))) (T.ret ((10 : Int), (3 : Int), x.2.2)) (T.ite (!(decide (x.1.2.1.1 ≥ (-1048576 : Int)) && decide (x.1.2.1.1 ≤ (1048576 : Int)) && decide (x.1.2.1.2.1 ≥ (-1048576 : Int)) && decide (x.1.2.1.2.1 ≤ (1048576 : Int)) && decide (x.1.2.1.2.2 ≥ (-1048576 : Int)) && decide (x.1.2.1.2.2 ≤ (1048576 : Int)))) (T.ret ((10 : Int), (3 : Int), x.2.2)) (T.ite (!(decide (x.1.2.2.1.1 ≥ (-1048576 : Int)) && decide (x.1.2.2.1.1 ≤ (1048576 : Int)) && decide (x.1.2.2.1.2.1 ≥ (-1048576 : Int)) && decide (x.1.2.2.1.2.1 ≤ (1048576 : Int)) && decide (x.1.2.2.1.2.2 ≥ (-1048576 : Int)) && decide (x.1.2.2.1.2.2 ≤ (1048576 : Int)))) (T.ret ((10 : Int), (3 : Int), x.2.2)) (T.ite (W (W (x.1.2.1.2.1 - x.1.1.2.1) * W (x.1.2.2.1.2.2 - x.1.1.2.2)) == W (W (x.1.2.1.2.2 - x.1.1.2.2) * W (x.1.2.2.1.2.1 - x.1.1.2.1)) && W (W (x.1.2.1.2.2 - x.1.1.2.2) * W (x.1.2.2.1.1 - x.1.1.1)) == W (W (x.1.2.1.1 - x.1.1.1) * W (x.1.2.2.1.2.2 - x.1.1.2.2)) && W (W (x.1.2.1.1 - x.1.1.1) * W (x.1.2.2.1.2.1 - x.1.1.2.1)) == W (W (x.1.2.1.2.1 - x.1.1.2.1) * W (x.1.2.2.1.1 - x.1.1.1))) (T.ret ((11 : Int), (13 : Int), x.2.2)) (T.ret ((0 : Int), (0 : Int), (0 : Int)))))))
noncomputable def ref22_tri (x : ((Int × Int × Int) × (Int × Int × Int) × (Int × Int × Int) × Int) × Int × Int) : Option ((Int × Int × Int)) := (ref22_tri.t x).run
noncomputable def ref22_tri.q : List AV → T AV := entry [TTriD, TI, TI] (outR [TP]) fun x => .opt (ref22_tri x) .ret
theorem ref22_tri.ok : FnOK Tryz.prog 24 ref22_tri.q :=
  entry_call (ps := [TTriD, TI, TI]) (rs := [TP]) (F := ({ quiet := (ext (ext (ext (ext Xs 45 ref22_broken.q) 44 ref22_In.q) 22 ref22_bound.q) 46 ref22_Flat.q), deep := noDeep } : Fns)) (D := D0) (S := tabS []) (t := ref22_tri.t) mixed (quiet_ext (quiet_ext (quiet_ext (quiet_ext Xok ref22_broken.ok) ref22_In.ok) ref22_bound.ok) ref22_Flat.ok) (deep_none _) Tryz.func24 (by kernel_rfl) (sok_fn trivial) (by kernel_rfl) (fun x => by kernel_rfl)
end Go.Proofs.Pen

namespace Go.Proofs.Pen
open Go Go.Proofs
def ref22_light.L0 : List (Nat × Lay) := [(0, .val (.sl TLitD)), (1, .val TI), (2, .val TI), (6, .box TP), (7, .val .bool), (8, .val TI)]
noncomputable def ref22_light.t0 (x : (List (Int × Int × Int × Int)) × Int × Int × (Int × Int × Int) × Bool × Int × Unit) : T (Ex × (List (Int × Int × Int × Int)) × Int × Int × (Int × Int × Int) × Bool × Int × Unit) := T.ite (decide (x.2.2.2.2.2.1 < x.2.1)) (T.ite x.2.2.2.2.1 (T.ret (Ex.normal, x.1, x.2.1, x.2.2.1, x.2.2.2.1, true, W (x.2.2.2.2.2.1 + (1 : Int)), ())) (T.opt (lget x.1 x.2.2.2.2.2.1) fun y => T.opt (lget x.1 x.2.1) fun y_1 => T.ret (Ex.normal, x.1, x.2.1, x.2.2.1, x.2.2.2.1, y.1 == y_1.fst, W (x.2.2.2.2.2.1 + (1 : Int)), ()))) (T.ret (Ex.exit (0 : Nat), x.1, x.2.1, x.2.2.1, x.2.2.2.1, x.2.2.2.2.1, x.2.2.2.2.2.1, ()))
noncomputable def ref22_light.l0 (x : (List (Int × Int × Int × Int)) × Int × Int × (Int × Int × Int) × Bool × Int × Unit) : Option (Ex × (List (Int × Int × Int × Int)) × Int × Int × (Int × Int × Int) × Bool × Int × Unit) := (iterT ref22_light.t0 rounds x).run
theorem ref22_light.k0 : bodies 0 (lp Tryz.f25 []) = [.loop (loopIn 0 (lp Tryz.f25 []))] ∧ WP Tryz.prog 0 (.block 0 (.loop (loopIn 0 (lp Tryz.f25 [])))) (loopS ref22_light.L0 60 0 [.exit 0] ref22_light.l0) :=
  loop_tree (L := ref22_light.L0) (F := ({ quiet := (ext (ext (ext Xs 45 ref22_broken.q) 44 ref22_In.q) 22 ref22_bound.q), deep := noDeep } : Fns)) (D := D0) (tab := []) (t := ref22_light.t0) mixed (quiet_ext (quiet_ext (quiet_ext Xok ref22_broken.ok) ref22_In.ok) ref22_bound.ok) (deep_none _) (fun _ => rfl) (by kernel_rfl) (by kernel_rfl) trivial (fun x => by kernel_rfl)
noncomputable def ref22_light.t (x : (List (Int × Int × Int × Int)) × Int × Int) : T ((Int × Int × Int)) := T.opt (ref22_light.l0 (x.1, x.2.1, x.2.2, ((0 : Int), (0 : Int), (0 : Int)), false, (0 : Int), ())) fun y => T.ite (exEq y.1 (Ex.exit (0 : Nat))) (T.opt (lget y.2.1 y.2.2.1) fun y_1 => T.ite (decide (y_1.fst < (0 : Int))) (T.ret ((11 : Int), (2 : Int), W (y.2.2.1 + (1 : Int)))) (T.opt (lget y.2.1 y.2.2.1) fun y_2 => T.ite (decide (y_2.fst ≥ y.2.2.2.1) || y.2.2.2.2.2.1) (T.ret ((11 : Int), (2 : Int), W (y.2.2.1 + (1 : Int)))) (T.opt (lget y.2.1 y.2.2.1) fun y_3 => T.ite (!(decide (y_3.snd.fst ≥ (0 : Int)) && decide (y_3.snd.fst ≤ (67108863 : Int)) && decide (y_3.snd.snd.fst ≥ (0 : Int)) && decide (y_3.snd.snd.fst ≤ (67108863 : Int)) && decide (y_3.snd.snd.snd ≥ (0 : Int)) && decide (y_3.snd.snd.snd ≤ (67108863 : Int)))) (T.ret ((10 : Int), (3 : Int), W (y.2.2.1 + (1 : Int)))) (T.ret ((0 : Int), (0 : Int), (0 : Int)))))) T.fail
noncomputable def ref22_light (x : (List (Int × Int × Int × Int)) × Int × Int) : Option ((Int × Int × Int)) := (ref22_light.t x).run
noncomputable def ref22_light.q : List AV → T AV := entry [(.sl TLitD), TI, TI] (outR [TP]) fun x => .opt (ref22_light x) .ret
theorem ref22_light.ok : FnOK Tryz.prog 25 ref22_light.q :=
  entry_call (ps := [(.sl TLitD), TI, TI]) (rs := [TP]) (F := ({ quiet := (ext (ext (ext Xs 45 ref22_broken.q) 44 ref22_In.q) 22 ref22_bound.q), deep := noDeep } : Fns)) (D := D0) (S := tabS [(0, loopS ref22_light.L0 60 0 [.exit 0] ref22_light.l0)]) (t := ref22_light.t) mixed (quiet_ext (quiet_ext (quiet_ext Xok ref22_broken.ok) ref22_In.ok) ref22_bound.ok) (deep_none _) Tryz.func25 (by kernel_rfl) (sok_fn ⟨ref22_light.k0, trivial⟩) (by kernel_rfl) (fun x => by kernel_rfl)
end Go.Proofs.Pen

namespace Go.Proofs.Pen
open Go Go.Proofs
def ref22_rest.L0 : List (Nat × Lay) := [(1, .box TScn), (2, .box TP), (3, .val TI)]
noncomputable def ref22_rest.t0 (x : ((List ((Int × Int × Int) × (Int × Int × Int) × Int)) × (List ((Int × Int × Int) × (Int × Int × Int) × (Int × Int × Int) × Int)) × (List (Int × Int × Int × Int)) × Int × (List (Int × Int × Int)) × ((Int × Int × Int) × (Int × Int × Int) × (Int × Int × Int) × Int × Int × Int) × Int × Int) × (Int × Int × Int) × Int × Unit) : T (Ex × ((List ((Int × Int × Int) × (Int × Int × Int) × Int)) × (List ((Int × Int × Int) × (Int × Int × Int) × (Int × Int × Int) × Int)) × (List (Int × Int × Int × Int)) × Int × (List (Int × Int × Int)) × ((Int × Int × Int) × (Int × Int × Int) × (Int × Int × Int) × Int × Int × Int) × Int × Int) × (Int × Int × Int) × Int × Unit) := T.ite (decide (x.2.2.1 < (↑(List.length x.1.2.2.2.2.1) : Int))) (T.opt (lget x.1.2.2.2.2.1 x.2.2.1) fun y => T.ite (!(decide (y.1 ≥ (0 : Int)) && decide (y.1 ≤ (67108863 : Int)) && decide (y.2.1 ≥ (0 : Int)) && decide (y.2.1 ≤ (67108863 : Int)) && decide (y.2.2 ≥ (0 : Int)) && decide (y.2.2 ≤ (67108863 : Int)))) (T.ret (Ex.ret, x.1, ((10 : Int), (3 : Int), W (x.2.2.1 + (1 : Int))), x.2.2.1, ())) (T.ret (Ex.normal, x.1, x.2.1, W (x.2.2.1 + (1 : Int)), ()))) (T.ret (Ex.exit (0 : Nat), x.1, x.2.1, x.2.2.1, ()))
noncomputable def ref22_rest.l0 (x : ((List ((Int × Int × Int) × (Int × Int × Int) × Int)) × (List ((Int × Int × Int) × (Int × Int × Int) × (Int × Int × Int) × Int)) × (List (Int × Int × Int × Int)) × Int × (List (Int × Int × Int)) × ((Int × Int × Int) × (Int × Int × Int) × (Int × Int × Int) × Int × Int × Int) × Int × Int) × (Int × Int × Int) × Int × Unit) : Option (Ex × ((List ((Int × Int × Int) × (Int × Int × Int) × Int)) × (List ((Int × Int × Int) × (Int × Int × Int) × (Int × Int × Int) × Int)) × (List (Int × Int × Int × Int)) × Int × (List (Int × Int × Int)) × ((Int × Int × Int) × (Int × Int × Int) × (Int × Int × Int) × Int × Int × Int) × Int × Int) × (Int × Int × Int) × Int × Unit) := (iterT ref22_rest.t0 rounds x).run
theorem ref22_rest.k0 : bodies 0 (lp Tryz.f26 []) = [.loop (loopIn 0 (lp Tryz.f26 []))] ∧ WP Tryz.prog 0 (.block 0 (.loop (loopIn 0 (lp Tryz.f26 [])))) (loopS ref22_rest.L0 111 0 [.exit 0, .ret] ref22_rest.l0) :=
  loop_tree (L := ref22_rest.L0) (F := ({ quiet := (ext (ext (ext (ext Xs 22 ref22_bound.q) 45 ref22_broken.q) 44 ref22_In.q) 46 ref22_Flat.q), deep := noDeep } : Fns)) (D := D0) (tab := []) (t := ref22_rest.t0) mixed (quiet_ext (quiet_ext (quiet_ext (quiet_ext Xok ref22_bound.ok) ref22_broken.ok) ref22_In.ok) ref22_Flat.ok) (deep_none _) (fun _ => rfl) (by kernel_rfl) (by kernel_rfl) trivial (fun x => by kernel_rfl)
noncomputable def ref22_rest.t (x : ((List ((Int × Int × Int) × (Int × Int × Int) × Int)) × (List ((Int × Int × Int) × (Int × Int × Int) × (Int × Int × Int) × Int)) × (List (Int × Int × Int × Int)) × Int × (List (Int × Int × Int)) × ((Int × Int × Int) × (Int × Int × Int) × (Int × Int × Int) × Int × Int × Int) × Int × Int)) : T ((Int × Int × Int)) := T.ite (decide (x.2.2.2.1 < (0 : Int))) (T.ret ((10 : Int), (3 : Int), (0 : Int))) (T.ite ((↑(List.length x.2.2.2.2.1) : Int) != W ((8 : Int) * x.2.2.2.1)) (T.ret ((11 : Int), (14 : Int), (0 : Int))) (T.opt (ref22_rest.l0 (x, ((0 : Int), (0 : Int), (0 : Int)), (0 : Int), ())) fun y => T.ite (exEq y.1 (Ex.exit (0 : Nat))) (T.ite (!(decide (y.2.1.2.2.2.2.2.1.1.1 ≥ (-1048576 : Int)) && decide (y.2.1.2.2.2.2.2.1.1.1 ≤ (1048576 : Int)) && decide (y.2.1.2.2.2.2.2.1.1.2.1 ≥ (-1048576 : Int)) && decide (y.2.1.2.2.2.2.2.1.1.2.1 ≤ (1048576 : Int)) && decide (y.2.1.2.2.2.2.2.1.1.2.2 ≥ (-1048576 : Int)) && decide (y.2.1.2.2.2.2.2.1.1.2.2 ≤ (1048576 : Int)))) (T.ret ((10 : Int), (3 : Int), (0 : Int))) (T.ite (!(decide (y.2.1.2.2.2.2.2.1.2.1.1 ≥ (-1048576 : Int)) && decide (y.2.1.2.2.2.2.2.1.2.1.1 ≤ (1048576 : Int)) && decide (y.2.1.2.2.2.2.2.1.2.1.2.1 ≥ (-1048576 : Int)) && decide (y.2.1.2.2.2.2.2.1.2.1.2.1 ≤ (1048576 : Int)) && decide (y.2.1.2.2.2.2.2.1.2.1.2.2 ≥ (-1048576 : Int)) && decide (y.2.1.2.2.2.2.2.1.2.1.2.2 ≤ (1048576 : Int)))) (T.ret ((10 : Int), (3 : Int), (0 : Int))) (T.ite (!(decide (y.2.1.2.2.2.2.2.1.2.2.1.1 ≥ (-1048576 : Int)) && decide (y.2.1.2.2.2.2.2.1.2.2.1.1 ≤ (1048576 : Int)) && decide (y.2.1.2.2.2.2.2.1.2.2.1.2.1 ≥ (-1048576 : Int)) && decide (y.2.1.2.2.2.2.2.1.2.2.1.2.1 ≤ (1048576 : Int)) && decide (y.2.1.2.2.2.2.2.1.2.2.1.2.2 ≥ (-1048576 : Int)) && decide (y.2.1.2.2.2.2.2.1.2.2.1.2.2 ≤ (1048576 : Int))) || decide (y.2.1.2.2.2.2.2.1.2.2.2.1 < (1 : Int)) || decide (y.2.1.2.2.2.2.2.1.2.2.2.1 > (1048576 : Int)) || decide (y.2.1.2.2.2.2.2.1.2.2.2.2.1 < (0 : Int)) || decide (y.2.1.2.2.2.2.2.1.2.2.2.2.1 > (1048576 : Int)) || decide (y.2.1.2.2.2.2.2.1.2.2.2.2.2 < (1 : Int)) || decide (y.2.1.2.2.2.2.2.1.2.2.2.2.2 > (1048576 : Int))) (T.ret ((10 : Int), (3 : Int), (0 : Int))) (T.ite (W (W (y.2.1.2.2.2.2.2.1.2.1.2.1 - y.2.1.2.2.2.2.2.1.1.2.1) * W (y.2.1.2.2.2.2.2.1.2.2.1.2.2 - (0 : Int))) == W (W (y.2.1.2.2.2.2.2.1.2.1.2.2 - y.2.1.2.2.2.2.2.1.1.2.2) * W (y.2.1.2.2.2.2.2.1.2.2.1.2.1 - (0 : Int))) && W (W (y.2.1.2.2.2.2.2.1.2.1.2.2 - y.2.1.2.2.2.2.2.1.1.2.2) * W (y.2.1.2.2.2.2.2.1.2.2.1.1 - (0 : Int))) == W (W (y.2.1.2.2.2.2.2.1.2.1.1 - y.2.1.2.2.2.2.2.1.1.1) * W (y.2.1.2.2.2.2.2.1.2.2.1.2.2 - (0 : Int))) && W (W (y.2.1.2.2.2.2.2.1.2.1.1 - y.2.1.2.2.2.2.2.1.1.1) * W (y.2.1.2.2.2.2.2.1.2.2.1.2.1 - (0 : Int))) == W (W (y.2.1.2.2.2.2.2.1.2.1.2.1 - y.2.1.2.2.2.2.2.1.1.2.1) * W (y.2.1.2.2.2.2.2.1.2.2.1.1 - (0 : Int)))) (T.ret ((11 : Int), (13 : Int), (0 : Int))) (T.ite (y.2.1.2.2.2.2.2.2.1 != (1 : Int) && y.2.1.2.2.2.2.2.2.1 != (2 : Int)) (T.ret ((11 : Int), (2 : Int), (0 : Int))) (T.ite (decide (y.2.1.2.2.2.2.2.2.2 < (1 : Int)) || decide (y.2.1.2.2.2.2.2.2.2 > (8192 : Int))) (T.ret ((10 : Int), (3 : Int), (0 : Int))) (T.ret ((0 : Int), (0 : Int), (0 : Int))))))))) (T.ite (exEq y.1 Ex.ret) (T.ret y.2.2.1) T.fail)))
noncomputable def ref22_rest (x : ((List ((Int × Int × Int) × (Int × Int × Int) × Int)) × (List ((Int × Int × Int) × (Int × Int × Int) × (Int × Int × Int) × Int)) × (List (Int × Int × Int × Int)) × Int × (List (Int × Int × Int)) × ((Int × Int × Int) × (Int × Int × Int) × (Int × Int × Int) × Int × Int × Int) × Int × Int)) : Option ((Int × Int × Int)) := (ref22_rest.t x).run
noncomputable def ref22_rest.q : List AV → T AV := entry [TScn] (outR [TP]) fun x => .opt (ref22_rest x) .ret
theorem ref22_rest.ok : FnOK Tryz.prog 26 ref22_rest.q :=
  entry_call (ps := [TScn]) (rs := [TP]) (F := ({ quiet := (ext (ext (ext (ext Xs 22 ref22_bound.q) 45 ref22_broken.q) 44 ref22_In.q) 46 ref22_Flat.q), deep := noDeep } : Fns)) (D := D0) (S := tabS [(0, loopS ref22_rest.L0 111 0 [.exit 0, .ret] ref22_rest.l0)]) (t := ref22_rest.t) mixed (quiet_ext (quiet_ext (quiet_ext (quiet_ext Xok ref22_bound.ok) ref22_broken.ok) ref22_In.ok) ref22_Flat.ok) (deep_none _) Tryz.func26 (by kernel_rfl) (sok_fn ⟨ref22_rest.k0, trivial⟩) (by kernel_rfl) (fun x => by kernel_rfl)
end Go.Proofs.Pen

namespace Go.Proofs.Pen
open Go Go.Proofs
def ref22_Check.L0 : List (Nat × Lay) := [(1, .box TScn), (2, .box TP), (3, .val TI)]
noncomputable def ref22_Check.t0 (x : ((List ((Int × Int × Int) × (Int × Int × Int) × Int)) × (List ((Int × Int × Int) × (Int × Int × Int) × (Int × Int × Int) × Int)) × (List (Int × Int × Int × Int)) × Int × (List (Int × Int × Int)) × ((Int × Int × Int) × (Int × Int × Int) × (Int × Int × Int) × Int × Int × Int) × Int × Int) × (Int × Int × Int) × Int × Unit) : T (Ex × ((List ((Int × Int × Int) × (Int × Int × Int) × Int)) × (List ((Int × Int × Int) × (Int × Int × Int) × (Int × Int × Int) × Int)) × (List (Int × Int × Int × Int)) × Int × (List (Int × Int × Int)) × ((Int × Int × Int) × (Int × Int × Int) × (Int × Int × Int) × Int × Int × Int) × Int × Int) × (Int × Int × Int) × Int × Unit) := T.ite (decide (x.2.2.1 < (↑(List.length x.1.1) : Int))) (T.opt (lget x.1.1 x.2.2.1) fun y => T.opt (ref22_mat (y, W (x.2.2.1 + (1 : Int)))) fun y => T.ite (!(y.1 == (0 : Int) && (y.2.1 == (0 : Int) && y.2.2 == (0 : Int)))) (T.ret (Ex.ret, x.1, y, x.2.2.1, ())) (T.ret (Ex.normal, x.1, x.2.1, W (x.2.2.1 + (1 : Int)), ()))) (T.ret (Ex.exit (0 : Nat), x.1, x.2.1, x.2.2.1, ()))
noncomputable def ref22_Check.l0 (x : ((List ((Int × Int × Int) × (Int × Int × Int) × Int)) × (List ((Int × Int × Int) × (Int × Int × Int) × (Int × Int × Int) × Int)) × (List (Int × Int × Int × Int)) × Int × (List (Int × Int × Int)) × ((Int × Int × Int) × (Int × Int × Int) × (Int × Int × Int) × Int × Int × Int) × Int × Int) × (Int × Int × Int) × Int × Unit) : Option (Ex × ((List ((Int × Int × Int) × (Int × Int × Int) × Int)) × (List ((Int × Int × Int) × (Int × Int × Int) × (Int × Int × Int) × Int)) × (List (Int × Int × Int × Int)) × Int × (List (Int × Int × Int)) × ((Int × Int × Int) × (Int × Int × Int) × (Int × Int × Int) × Int × Int × Int) × Int × Int) × (Int × Int × Int) × Int × Unit) := (iterT ref22_Check.t0 rounds x).run
theorem ref22_Check.k0 : bodies 0 (lp Tryz.f8 []) = [.loop (loopIn 0 (lp Tryz.f8 []))] ∧ WP Tryz.prog 0 (.block 0 (.loop (loopIn 0 (lp Tryz.f8 [])))) (loopS ref22_Check.L0 92 0 [.exit 0, .ret] ref22_Check.l0) :=
  loop_tree (L := ref22_Check.L0) (F := ({ quiet := (ext (ext (ext (ext (ext Xs 22 ref22_bound.q) 23 ref22_mat.q) 24 ref22_tri.q) 25 ref22_light.q) 26 ref22_rest.q), deep := noDeep } : Fns)) (D := D0) (tab := []) (t := ref22_Check.t0) mixed (quiet_ext (quiet_ext (quiet_ext (quiet_ext (quiet_ext Xok ref22_bound.ok) ref22_mat.ok) ref22_tri.ok) ref22_light.ok) ref22_rest.ok) (deep_none _) (fun _ => rfl) (by kernel_rfl) (by kernel_rfl) trivial (fun x => by kernel_rfl)
def ref22_Check.L2 : List (Nat × Lay) := [(1, .box TScn), (2, .box TP), (5, .val TI)]
noncomputable def ref22_Check.t2 (x : ((List ((Int × Int × Int) × (Int × Int × Int) × Int)) × (List ((Int × Int × Int) × (Int × Int × Int) × (Int × Int × Int) × Int)) × (List (Int × Int × Int × Int)) × Int × (List (Int × Int × Int)) × ((Int × Int × Int) × (Int × Int × Int) × (Int × Int × Int) × Int × Int × Int) × Int × Int) × (Int × Int × Int) × Int × Unit) : T (Ex × ((List ((Int × Int × Int) × (Int × Int × Int) × Int)) × (List ((Int × Int × Int) × (Int × Int × Int) × (Int × Int × Int) × Int)) × (List (Int × Int × Int × Int)) × Int × (List (Int × Int × Int)) × ((Int × Int × Int) × (Int × Int × Int) × (Int × Int × Int) × Int × Int × Int) × Int × Int) × (Int × Int × Int) × Int × Unit) := T.ite (decide (x.2.2.1 < (↑(List.length x.1.2.1) : Int))) (T.opt (lget x.1.2.1 x.2.2.1) fun y => T.opt (ref22_tri (y, (↑(List.length x.1.1) : Int), W (x.2.2.1 + (1 : Int)))) fun y => T.ite (!(y.1 == (0 : Int) && (y.2.1 == (0 : Int) && y.2.2 == (0 : Int)))) (T.ret (Ex.ret, x.1, y, x.2.2.1, ())) (T.ret (Ex.normal, x.1, x.2.1, W (x.2.2.1 + (1 : Int)), ()))) (T.ret (Ex.exit (2 : Nat), x.1, x.2.1, x.2.2.1, ()))
noncomputable def ref22_Check.l2 (x : ((List ((Int × Int × Int) × (Int × Int × Int) × Int)) × (List ((Int × Int × Int) × (Int × Int × Int) × (Int × Int × Int) × Int)) × (List (Int × Int × Int × Int)) × Int × (List (Int × Int × Int)) × ((Int × Int × Int) × (Int × Int × Int) × (Int × Int × Int) × Int × Int × Int) × Int × Int) × (Int × Int × Int) × Int × Unit) : Option (Ex × ((List ((Int × Int × Int) × (Int × Int × Int) × Int)) × (List ((Int × Int × Int) × (Int × Int × Int) × (Int × Int × Int) × Int)) × (List (Int × Int × Int × Int)) × Int × (List (Int × Int × Int)) × ((Int × Int × Int) × (Int × Int × Int) × (Int × Int × Int) × Int × Int × Int) × Int × Int) × (Int × Int × Int) × Int × Unit) := (iterT ref22_Check.t2 rounds x).run
theorem ref22_Check.k2 : bodies 2 (lp Tryz.f8 []) = [.loop (loopIn 2 (lp Tryz.f8 []))] ∧ WP Tryz.prog 0 (.block 2 (.loop (loopIn 2 (lp Tryz.f8 [])))) (loopS ref22_Check.L2 92 2 [.exit 2, .ret] ref22_Check.l2) :=
  loop_tree (L := ref22_Check.L2) (F := ({ quiet := (ext (ext (ext (ext (ext Xs 22 ref22_bound.q) 23 ref22_mat.q) 24 ref22_tri.q) 25 ref22_light.q) 26 ref22_rest.q), deep := noDeep } : Fns)) (D := D0) (tab := []) (t := ref22_Check.t2) mixed (quiet_ext (quiet_ext (quiet_ext (quiet_ext (quiet_ext Xok ref22_bound.ok) ref22_mat.ok) ref22_tri.ok) ref22_light.ok) ref22_rest.ok) (deep_none _) (fun _ => rfl) (by kernel_rfl) (by kernel_rfl) trivial (fun x => by kernel_rfl)
def ref22_Check.L4 : List (Nat × Lay) := [(1, .box TScn), (2, .box TP), (7, .val TI)]
noncomputable def ref22_Check.t4 (x : ((List ((Int × Int × Int) × (Int × Int × Int) × Int)) × (List ((Int × Int × Int) × (Int × Int × Int) × (Int × Int × Int) × Int)) × (List (Int × Int × Int × Int)) × Int × (List (Int × Int × Int)) × ((Int × Int × Int) × (Int × Int × Int) × (Int × Int × Int) × Int × Int × Int) × Int × Int) × (Int × Int × Int) × Int × Unit) : T (Ex × ((List ((Int × Int × Int) × (Int × Int × Int) × Int)) × (List ((Int × Int × Int) × (Int × Int × Int) × (Int × Int × Int) × Int)) × (List (Int × Int × Int × Int)) × Int × (List (Int × Int × Int)) × ((Int × Int × Int) × (Int × Int × Int) × (Int × Int × Int) × Int × Int × Int) × Int × Int) × (Int × Int × Int) × Int × Unit) := T.ite (decide (x.2.2.1 < (↑(List.length x.1.2.2.1) : Int))) (T.opt (ref22_light (x.1.2.2.1, x.2.2.1, (↑(List.length x.1.2.1) : Int))) fun y => T.ite (!(y.1 == (0 : Int) && (y.2.1 == (0 : Int) && y.2.2 == (0 : Int)))) (T.ret (Ex.ret, x.1, y, x.2.2.1, ())) (T.ret (Ex.normal, x.1, x.2.1, W (x.2.2.1 + (1 : Int)), ()))) (T.ret (Ex.exit (4 : Nat), x.1, x.2.1, x.2.2.1, ()))
noncomputable def ref22_Check.l4 (x : ((List ((Int × Int × Int) × (Int × Int × Int) × Int)) × (List ((Int × Int × Int) × (Int × Int × Int) × (Int × Int × Int) × Int)) × (List (Int × Int × Int × Int)) × Int × (List (Int × Int × Int)) × ((Int × Int × Int) × (Int × Int × Int) × (Int × Int × Int) × Int × Int × Int) × Int × Int) × (Int × Int × Int) × Int × Unit) : Option (Ex × ((List ((Int × Int × Int) × (Int × Int × Int) × Int)) × (List ((Int × Int × Int) × (Int × Int × Int) × (Int × Int × Int) × Int)) × (List (Int × Int × Int × Int)) × Int × (List (Int × Int × Int)) × ((Int × Int × Int) × (Int × Int × Int) × (Int × Int × Int) × Int × Int × Int) × Int × Int) × (Int × Int × Int) × Int × Unit) := (iterT ref22_Check.t4 rounds x).run
theorem ref22_Check.k4 : bodies 4 (lp Tryz.f8 []) = [.loop (loopIn 4 (lp Tryz.f8 []))] ∧ WP Tryz.prog 0 (.block 4 (.loop (loopIn 4 (lp Tryz.f8 [])))) (loopS ref22_Check.L4 92 4 [.exit 4, .ret] ref22_Check.l4) :=
  loop_tree (L := ref22_Check.L4) (F := ({ quiet := (ext (ext (ext (ext (ext Xs 22 ref22_bound.q) 23 ref22_mat.q) 24 ref22_tri.q) 25 ref22_light.q) 26 ref22_rest.q), deep := noDeep } : Fns)) (D := D0) (tab := []) (t := ref22_Check.t4) mixed (quiet_ext (quiet_ext (quiet_ext (quiet_ext (quiet_ext Xok ref22_bound.ok) ref22_mat.ok) ref22_tri.ok) ref22_light.ok) ref22_rest.ok) (deep_none _) (fun _ => rfl) (by kernel_rfl) (by kernel_rfl) trivial (fun x => by kernel_rfl)
noncomputable def ref22_Check.t (x : ((List ((Int × Int × Int) × (Int × Int × Int) × Int)) × (List ((Int × Int × Int) × (Int × Int × Int) × (Int × Int × Int) × Int)) × (List (Int × Int × Int × Int)) × Int × (List (Int × Int × Int)) × ((Int × Int × Int) × (Int × Int × Int) × (Int × Int × Int) × Int × Int × Int) × Int × Int)) : T ((Int × Int × Int)) := T.ite (decide ((↑(List.length x.1) : Int) > (32 : Int)) || decide ((↑(List.length x.2.1) : Int) > (512 : Int)) || decide ((↑(List.length x.2.2.1) : Int) > (512 : Int)) || decide (x.2.2.2.1 > (16 : Int))) (T.ret ((10 : Int), (4 : Int), (0 : Int))) (T.opt (ref22_Check.l0 (x, ((0 : Int), (0 : Int), (0 : Int)), (0 : Int), ())) fun y => T.ite (exEq y.1 (Ex.exit (0 : Nat))) (T.opt (ref22_Check.l2 (y.2.1, y.2.2.1, (0 : Int), ())) fun y => T.ite (exEq y.1 (Ex.exit (2 : Nat))) (T.opt (ref22_Check.l4 (y.2.1, y.2.2.1, (0 : Int), ())) fun y => T.ite (exEq y.1 (Ex.exit (4 : Nat))) (T.opt (ref22_rest y.2.1) fun y => T.ret y) (T.ite (exEq y.1 Ex.ret) (T.ret y.2.2.1) T.fail)) (T.ite (exEq y.1 Ex.ret) (T.ret y.2.2.1) T.fail)) (T.ite (exEq y.1 Ex.ret) (T.ret y.2.2.1) T.fail))
noncomputable def ref22_Check (x : ((List ((Int × Int × Int) × (Int × Int × Int) × Int)) × (List ((Int × Int × Int) × (Int × Int × Int) × (Int × Int × Int) × Int)) × (List (Int × Int × Int × Int)) × Int × (List (Int × Int × Int)) × ((Int × Int × Int) × (Int × Int × Int) × (Int × Int × Int) × Int × Int × Int) × Int × Int)) : Option ((Int × Int × Int)) := (ref22_Check.t x).run
noncomputable def ref22_Check.q : List AV → T AV := entry [TScn] (outR [TP]) fun x => .opt (ref22_Check x) .ret
theorem ref22_Check.ok : FnOK Tryz.prog 8 ref22_Check.q :=
  entry_call (ps := [TScn]) (rs := [TP]) (F := ({ quiet := (ext (ext (ext (ext (ext Xs 22 ref22_bound.q) 23 ref22_mat.q) 24 ref22_tri.q) 25 ref22_light.q) 26 ref22_rest.q), deep := noDeep } : Fns)) (D := D0) (S := tabS [(0, loopS ref22_Check.L0 92 0 [.exit 0, .ret] ref22_Check.l0), (2, loopS ref22_Check.L2 92 2 [.exit 2, .ret] ref22_Check.l2), (4, loopS ref22_Check.L4 92 4 [.exit 4, .ret] ref22_Check.l4)]) (t := ref22_Check.t) mixed (quiet_ext (quiet_ext (quiet_ext (quiet_ext (quiet_ext Xok ref22_bound.ok) ref22_mat.ok) ref22_tri.ok) ref22_light.ok) ref22_rest.ok) (deep_none _) Tryz.func8 (by kernel_rfl) (sok_fn ⟨ref22_Check.k0, ref22_Check.k2, ref22_Check.k4, trivial⟩) (by kernel_rfl) (fun x => by kernel_rfl)
end Go.Proofs.Pen

namespace Go.Proofs.Pen
open Go Go.Proofs

def ErrD.depth : ErrD → Nat
  | .nil => 0
  | .code _ => 1
  | .fault _ _ e => e.depth + 1

def ErrD.has (c : Int) : ErrD → Bool
  | .nil => false
  | .code d => d == c
  | .fault d _ e => c == d || e.has c

theorem iter_stop {σ : Type} {t : σ → T (Ex × σ)} {n : Nat} {x y : σ} {e : Ex} (he : e ≠ .normal) (h : (t x).run = some (e, y)) : (iterT t (n + 1) x).run = some (e, y) := by
  rw [iter_step h]
  cases e <;> first | exact absurd rfl he | rfl
theorem iter_go {σ : Type} {t : σ → T (Ex × σ)} {n : Nat} {x y : σ} (h : (t x).run = some (.normal, y)) : (iterT t (n + 1) x).run = (iterT t n y).run := by
  rw [iter_step h]

theorem is_run (c : Int) (r : Bool) : ∀ (e : ErrD) (m : Nat), e.depth < m → ∃ e', (iterT errors_is.t0 m (e, c, true, r, ())).run = some (.ret, e', c, true, e.has c, ())
  | .nil, 0, h => absurd h (Nat.not_lt_zero _)
  | .nil, m + 1, _ => ⟨_, iter_stop (by simp) rfl⟩
  | .code d, 0, h => absurd h (Nat.not_lt_zero _)
  | .code d, m + 1, _ => by
    refine ⟨.code d, iter_stop (by simp) ?_⟩
    unfold errors_is.t0
    dsimp only [ErrD.isThe, ErrD.isFault]
    rw [tr_ite]
    cases h : d == c
    · simp [h, tr_ite, tr_ret, ErrD.has]
    · simp [h, tr_ret, ErrD.has]
  | .fault d l e, 0, h => absurd h (Nat.not_lt_zero _)
  | .fault d l e, m + 1, hm => by
    have hm : e.depth < m := by simp only [ErrD.depth] at hm; omega
    by_cases h : c == d
    · refine ⟨.fault d l e, iter_stop (by simp) ?_⟩
      unfold errors_is.t0
      dsimp only [ErrD.isThe, ErrD.isFault, ErrD.onlyF, ErrD.faultC]
      simp [h, tr_ite, tr_ret, ErrD.has]
    · have h' : (c == d) = false := by simpa using h
      by_cases hn : e.isNil = true
      · refine ⟨e, iter_stop (by simp) ?_⟩
        unfold errors_is.t0
        dsimp only [ErrD.isThe, ErrD.isFault, ErrD.onlyF, ErrD.faultC, ErrD.faultE]
        have he : e = .nil := by cases e <;> simp [ErrD.isNil] at hn; rfl
        subst he
        simp [h', tr_ite, tr_ret, ErrD.has, ErrD.isNil]
      · obtain ⟨e', he⟩ := is_run c r e m hm
        refine ⟨e', ?_⟩
        have hn' : e.isNil = false := by simpa using hn
        have h0 : (errors_is.t0 (.fault d l e, c, true, r, ())).run = some (.normal, e, c, true, r, ()) := by
          unfold errors_is.t0
          dsimp only [ErrD.isThe, ErrD.isFault, ErrD.onlyF, ErrD.faultC, ErrD.faultE]
          simp [h', hn', tr_ite, tr_ret]
        rw [iter_go h0, he]
        simp only [ErrD.has, h', Bool.false_or]

theorem Is_eq (e : ErrD) (c : Int) (h : e.depth ≤ 1000) : fault_Is (e, c) = some (e.has c) := by
  have e0 : ∀ e, e.isNil = false → e.depth ≤ 1000 → errors_Is (e, c) = some (e.has c) := by
    intro e hn hd
    have h1 : errors_is (e, c, true) = some (e.has c) := by
      obtain ⟨e', he⟩ := is_run c false e rounds (rounds_gt (by omega))
      unfold errors_is errors_is.t
      dsimp only
      have hl : errors_is.l0 (e, c, true, false, ()) = some (.ret, e', c, true, e.has c, ()) := he
      rw [tr_opt, hl, Option.bind_some, tr_ite, if_pos (by rfl), tr_ret]
    unfold errors_Is errors_Is.t
    dsimp only
    rw [tr_ite, hn, if_neg (by simp), tr_opt, h1, Option.bind_some, tr_ret]
  unfold fault_Is fault_Is.t
  dsimp only
  cases e with
  | nil => rfl
  | code d => rw [tr_ite, if_pos (by rfl), tr_opt, e0 _ rfl h, Option.bind_some, tr_ret]
  | fault d l e => rw [tr_ite, if_pos (by rfl), tr_opt, e0 _ rfl h, Option.bind_some, tr_ret]

theorem nn {n : Nat} (h : n < 1000) : W ((n : Int) + 1) = ((n + 1 : Nat) : Int) := W_succ (by omega)

theorem New_eq {c l : Int} (h : ¬ (c == 0) = true) : fault_New (c, l) = some (.fault c l .nil) := by
  unfold fault_New fault_New.t
  rw [tr_ite, if_neg h, tr_ret]

theorem Wrap_eq {e : ErrD} {c l : Int} (he : e.isNil = false) (h : ¬ (c == 0) = true) : fault_Wrap (e, c, l) = some (.fault c l e) := by
  unfold fault_Wrap fault_Wrap.t
  dsimp only
  rw [tr_ite, he, Bool.false_or, if_neg h, tr_ret]

end Go.Proofs.Pen

namespace Go.Proofs.Pen
open Go Go.Proofs

abbrev W3 := Int × Int × Int

def firstF (f : Nat → Option W3) : Nat → Nat → Option (Nat × W3)
  | _, 0 => none
  | k, n + 1 => match f k with
    | some w => some (k, w)
    | none => firstF f (k + 1) n

theorem iter_first {σ : Type} {t : σ → T (Ex × σ)} (st : Nat → σ) (f : Nat → Option W3) (er : Nat → W3 → σ) {e : Ex} {z : σ} (he : e ≠ .normal) : ∀ (n k m : Nat),
    (∀ i, k ≤ i → i < k + n → f i = none → (t (st i)).run = some (.normal, st (i + 1))) → (∀ i w, k ≤ i → i < k + n → f i = some w → (t (st i)).run = some (.ret, er i w)) →
    (t (st (k + n))).run = some (e, z) → n < m → (iterT t m (st k)).run = some (match firstF f k n with | some (i, w) => (.ret, er i w) | none => (e, z))
  | n, k, 0, _, _, _, hm => absurd hm (Nat.not_lt_zero _)
  | 0, k, m + 1, _, _, h2, _ => by
    rw [Nat.add_zero] at h2
    exact iter_stop he h2
  | n + 1, k, m + 1, h0, h1, h2, hm => by
    unfold firstF
    cases hf : f k with
    | some w => exact iter_stop (by simp) (h1 k w (Nat.le_refl _) (by omega) hf)
    | none =>
      rw [iter_go (h0 k (Nat.le_refl _) (by omega) hf)]
      exact iter_first st f er he n (k + 1) m (fun i a b => h0 i (by omega) (by omega)) (fun i w a b => h1 i w (by omega) (by omega)) (by rw [show k + 1 + n = k + (n + 1) by omega]; exact h2) (by omega)

theorem firstF_some {f : Nat → Option W3} : ∀ {n k i : Nat} {w : W3}, firstF f k n = some (i, w) → k ≤ i ∧ i < k + n ∧ f i = some w
  | 0, k, i, w, h => by cases h
  | n + 1, k, i, w, h => by
    unfold firstF at h
    cases hf : f k with
    | some w' => rw [hf] at h; cases h; exact ⟨Nat.le_refl _, by omega, hf⟩
    | none =>
      rw [hf] at h
      obtain ⟨h1, h2, h3⟩ := firstF_some h
      exact ⟨by omega, by omega, h3⟩

theorem firstF_none {f : Nat → Option W3} : ∀ {n k : Nat}, firstF f k n = none → ∀ i, k ≤ i → i < k + n → f i = none
  | 0, k, _, i, h1, h2 => by omega
  | n + 1, k, h, i, h1, h2 => by
    unfold firstF at h
    cases hf : f k with
    | some w' => rw [hf] at h; cases h
    | none =>
      rw [hf] at h
      rcases Nat.lt_or_ge k i with hi | hi
      · exact firstF_none h i (by omega) (by omega)
      · have : i = k := by omega
        subst this; exact hf

def mkErr : Option W3 → ErrD
  | none => .nil
  | some w => .fault w.1 0 (.fault w.2.1 w.2.2 .nil)
def mkW : Option W3 → W3
  | none => (0, 0, 0)
  | some w => w

theorem bound_eq {c p : Int} (h : ¬ (c == 0) = true) : scene_bound (c, p) = some (mkErr (some (10, c, p))) := by
  have e1 : fault_Wrap (.fault c p .nil, 10, 0) = _ := Wrap_eq rfl (by decide)
  unfold scene_bound scene_bound.t
  rw [tr_opt, New_eq h, Option.bind_some, tr_opt, e1, Option.bind_some, tr_ret]; rfl
theorem broken_eq {c p : Int} (h : ¬ (c == 0) = true) : scene_broken (c, p) = some (mkErr (some (11, c, p))) := by
  have e1 : fault_Wrap (.fault c p .nil, 11, 0) = _ := Wrap_eq rfl (by decide)
  unfold scene_broken scene_broken.t
  rw [tr_opt, New_eq h, Option.bind_some, tr_opt, e1, Option.bind_some, tr_ret]; rfl

def inB (lo hi : Int) (l : List Int) : Bool := l.all fun a => decide (lo ≤ a) && decide (a ≤ hi)

def mnF (m y : Int) : Int := if y < m then y else m
def mxF (m y : Int) : Int := if y > m then y else m

theorem mn_ge (lo : Int) : ∀ (t : List Int) (a : Int), lo ≤ t.foldl mnF a ↔ lo ≤ a ∧ ∀ b ∈ t, lo ≤ b
  | [], a => by simp
  | b :: t, a => by
    rw [List.foldl_cons, mn_ge lo t]
    have : lo ≤ mnF a b ↔ lo ≤ a ∧ lo ≤ b := by unfold mnF; split <;> omega
    rw [this]
    simp [and_assoc]
theorem mx_le (hi : Int) : ∀ (t : List Int) (a : Int), t.foldl mxF a ≤ hi ↔ a ≤ hi ∧ ∀ b ∈ t, b ≤ hi
  | [], a => by simp
  | b :: t, a => by
    rw [List.foldl_cons, mx_le hi t]
    have : mxF a b ≤ hi ↔ a ≤ hi ∧ b ≤ hi := by unfold mxF; split <;> omega
    rw [this]
    simp [and_assoc]

theorem fold_take (f : Int → Int → Int) (a : Int) (t : List Int) {k : Nat} (h : k < t.length) : (t.take (k + 1)).foldl f a = f ((t.take k).foldl f a) t[k] := by
  rw [List.take_succ_eq_append_getElem h, List.foldl_append]; rfl

theorem Min_eq (a : Int) (t : List Int) (h : t.length < 900) : slices_Min (a :: t) = some (t.foldl mnF a) := by
  have hl : slices_Min.l0 (a :: t, a, 1, ()) = some (.exit 0, a :: t, t.foldl mnF a, ((t.length + 1 : Nat) : Int), ()) := by
    have := iter_count (t := slices_Min.t0) (fun k => ((a :: t, (t.take (k - 1)).foldl mnF a, (k : Int), ()) : List Int × Int × Int × Unit)) (e := .exit 0) (z := (a :: t, t.foldl mnF a, ((t.length + 1 : Nat) : Int), ())) (by simp) t.length 1 rounds (fun i h1 hi => ?_) ?_ (rounds_gt (by omega))
    · exact this
    · have hi : i < t.length + 1 := by omega
      unfold slices_Min.t0
      dsimp only
      have hg : lget (a :: t) (i : Int) = some (t[i - 1]'(by omega)) := by
        rw [lget_nat (a :: t) (by simpa using hi)]
        congr 1
        rw [List.getElem_cons]
        split
        · omega
        · rfl
      rw [tr_ite, decide_eq_true (by simp; omega), if_pos rfl, tr_opt, hg, Option.bind_some, tr_ret, W_succ (by omega)]
      have e1 : i + 1 - 1 = (i - 1) + 1 := by omega
      rw [e1, fold_take mnF a t (by omega)]
      rfl
    · unfold slices_Min.t0
      dsimp only
      have e1 : 1 + t.length - 1 = t.length := by omega
      have e2 : ((1 + t.length : Nat) : Int) = ((t.length + 1 : Nat) : Int) := by omega
      rw [tr_ite, decide_eq_false (by simp; omega), if_neg (by simp), tr_ret, e1, e2, List.take_length]
  unfold slices_Min slices_Min.t
  have hg : lget (a :: t) 0 = some a := rfl
  rw [tr_ite, decide_eq_false (by simp; omega), if_neg (by simp), tr_opt, hg, Option.bind_some, tr_opt, hl, Option.bind_some, tr_ite, if_pos (by rfl), tr_ret]

theorem Max_eq (a : Int) (t : List Int) (h : t.length < 900) : slices_Max (a :: t) = some (t.foldl mxF a) := by
  have hl : slices_Max.l0 (a :: t, a, 1, ()) = some (.exit 0, a :: t, t.foldl mxF a, ((t.length + 1 : Nat) : Int), ()) := by
    have := iter_count (t := slices_Max.t0) (fun k => ((a :: t, (t.take (k - 1)).foldl mxF a, (k : Int), ()) : List Int × Int × Int × Unit)) (e := .exit 0) (z := (a :: t, t.foldl mxF a, ((t.length + 1 : Nat) : Int), ())) (by simp) t.length 1 rounds (fun i h1 hi => ?_) ?_ (rounds_gt (by omega))
    · exact this
    · have hi : i < t.length + 1 := by omega
      unfold slices_Max.t0
      dsimp only
      have hg : lget (a :: t) (i : Int) = some (t[i - 1]'(by omega)) := by
        rw [lget_nat (a :: t) (by simpa using hi)]
        congr 1
        rw [List.getElem_cons]
        split
        · omega
        · rfl
      rw [tr_ite, decide_eq_true (by simp; omega), if_pos rfl, tr_opt, hg, Option.bind_some, tr_ret, W_succ (by omega)]
      have e1 : i + 1 - 1 = (i - 1) + 1 := by omega
      rw [e1, fold_take mxF a t (by omega)]
      rfl
    · unfold slices_Max.t0
      dsimp only
      have e1 : 1 + t.length - 1 = t.length := by omega
      have e2 : ((1 + t.length : Nat) : Int) = ((t.length + 1 : Nat) : Int) := by omega
      rw [tr_ite, decide_eq_false (by simp; omega), if_neg (by simp), tr_ret, e1, e2, List.take_length]
  unfold slices_Max slices_Max.t
  have hg : lget (a :: t) 0 = some a := rfl
  rw [tr_ite, decide_eq_false (by simp; omega), if_neg (by simp), tr_opt, hg, Option.bind_some, tr_opt, hl, Option.bind_some, tr_ite, if_pos (by rfl), tr_ret]

theorem within_eq (a : Int) (t : List Int) (lo hi : Int) (h : t.length < 900) : scene_within_1 (a :: t, lo, hi) = some (inB lo hi (a :: t)) := by
  unfold scene_within_1 scene_within_1.t
  dsimp only
  rw [tr_opt, Min_eq a t h, Option.bind_some, tr_ite, tr_opt, Max_eq a t h, Option.bind_some]
  have e1 := mn_ge lo t a
  have e2 := mx_le hi t a
  have e3 : inB lo hi (a :: t) = (decide (lo ≤ t.foldl mnF a) && decide (t.foldl mxF a ≤ hi)) := by
    rw [Bool.eq_iff_iff]
    simp only [inB, List.all_cons, Bool.and_eq_true, List.all_eq_true, decide_eq_true_eq, e1, e2]
    constructor
    · rintro ⟨⟨h1, h2⟩, h3⟩; exact ⟨⟨h1, fun b hb => (h3 b hb).1⟩, h2, fun b hb => (h3 b hb).2⟩
    · rintro ⟨⟨h1, h2⟩, h3, h4⟩; exact ⟨⟨h1, h3⟩, fun b hb => ⟨h2 b hb, h4 b hb⟩⟩
  rw [e3]
  show (if decide (lo ≤ t.foldl mnF a) = true then some (decide (t.foldl mxF a ≤ hi)) else some false) = _
  cases decide (lo ≤ t.foldl mnF a) <;> simp

def in3 (p : W3) (lo hi : Int) : Bool := decide (p.1 ≥ lo) && decide (p.1 ≤ hi) && decide (p.2.1 ≥ lo) && decide (p.2.1 ≤ hi) && decide (p.2.2 ≥ lo) && decide (p.2.2 ≤ hi)
theorem inB3 (p : W3) (lo hi : Int) : inB lo hi [p.1, p.2.1, p.2.2] = in3 p lo hi := by
  unfold inB in3
  simp only [List.all_cons, List.all_nil, Bool.and_true, ge_iff_le]
  simp only [Bool.and_assoc]
theorem within3 (p : W3) (lo hi : Int) : scene_within_1 (List.take 3 [p.1, p.2.1, p.2.2], lo, hi) = some (in3 p lo hi) := by
  rw [← inB3]; exact within_eq p.1 [p.2.1, p.2.2] lo hi (by simp)
theorem within1 (a lo hi : Int) : scene_within_1 ([a], lo, hi) = some (decide (lo ≤ a) && decide (a ≤ hi)) := by
  rw [within_eq a [] lo hi (by simp)]; simp [inB]

theorem W_sub0 (a b : Int) : (W (W a - W b) == 0) = (W a == W b) := by
  have h1 := W_in a
  have h2 := W_in b
  have h3 := W_def (W a - W b)
  rw [Bool.eq_iff_iff, beq_iff_eq, beq_iff_eq, h3]
  split <;> omega

def flatB (a b : W3) : Bool := W (a.2.1 * b.2.2) == W (a.2.2 * b.2.1) && (W (a.2.2 * b.1) == W (a.1 * b.2.2) && W (a.1 * b.2.1) == W (a.2.1 * b.1))
def lessW (a b : W3) : W3 := (W (a.1 - b.1), W (a.2.1 - b.2.1), W (a.2.2 - b.2.2))
end Go.Proofs.Pen

namespace Go.Proofs.Pen
open Go Go.Proofs

theorem nf {b : Bool} (h : ¬ b = false) : b = true := by cases b <;> simp_all

abbrev MatT := W3 × W3 × Int
abbrev TriT := W3 × W3 × W3 × Int
abbrev LitT := Int × W3
abbrev CamT := W3 × W3 × W3 × Int × Int × Int
abbrev ScT := List MatT × List TriT × List LitT × Int × List W3 × CamT × Int × Int


def over1 (a b : Int) : Bool := decide (1024 ≤ a + b)
def matW (m : MatT) (p : Int) : Option W3 :=
  if (decide (1 ≤ m.2.2) && decide (m.2.2 ≤ 1024) && in3 m.1 0 9223372036854775807 && in3 m.2.1 0 9223372036854775807) = false then some (10, 3, p)
  else if (over1 m.1.1 m.2.1.1 || over1 m.1.2.1 m.2.1.2.1 || over1 m.1.2.2 m.2.1.2.2) = true then some (11, 4, p) else none
def triW (nm : Int) (t : TriT) (p : Int) : Option W3 :=
  if (decide (t.2.2.2 < 0) || decide (t.2.2.2 ≥ nm)) = true then some (11, 2, p)
  else if (in3 t.1 (-1048576) 1048576 && in3 t.2.1 (-1048576) 1048576 && in3 t.2.2.1 (-1048576) 1048576) = false then some (10, 3, p)
  else if flatB (lessW t.2.1 t.1) (lessW t.2.2.1 t.1) = true then some (11, 13, p) else none
def litW (nt : Int) (ahead : List LitT) (t : LitT) (p : Int) : Option W3 :=
  if (decide (t.1 < 0) || decide (t.1 ≥ nt) || ahead.any fun y => t.1 == y.1) = true then some (11, 2, p)
  else if in3 t.2 0 67108863 = false then some (10, 3, p) else none
def celW (c : W3) (p : Int) : Option W3 := if in3 c 0 67108863 = false then some (10, 3, p) else none
def camW (x : ScT) : Option W3 :=
  let c := x.2.2.2.2.2.1
  if (in3 c.1 (-1048576) 1048576 && in3 c.2.1 (-1048576) 1048576 && in3 c.2.2.1 (-1048576) 1048576 && (decide (1 ≤ c.2.2.2.1) && decide (c.2.2.2.1 ≤ 1048576)) && (decide (1 ≤ c.2.2.2.2.2) && decide (c.2.2.2.2.2 ≤ 1048576)) && (decide (0 ≤ c.2.2.2.2.1) && decide (c.2.2.2.2.1 ≤ 1048576))) = false then some (10, 3, 0)
  else if flatB (lessW c.2.1 c.1) c.2.2.1 = true then some (11, 13, 0)
  else if (x.2.2.2.2.2.2.1 != 1 && x.2.2.2.2.2.2.1 != 2) = true then some (11, 2, 0)
  else if (decide (1 ≤ x.2.2.2.2.2.2.2) && decide (x.2.2.2.2.2.2.2 ≤ 8192)) = false then some (10, 3, 0) else none

def fM (x : ScT) (k : Nat) : Option W3 := x.1[k]?.bind fun m => matW m ((k + 1 : Nat) : Int)
def fT (x : ScT) (k : Nat) : Option W3 := x.2.1[k]?.bind fun t => triW (x.1.length : Int) t ((k + 1 : Nat) : Int)
def fL (x : ScT) (k : Nat) : Option W3 := x.2.2.1[k]?.bind fun t => litW (x.2.1.length : Int) (x.2.2.1.take k) t ((k + 1 : Nat) : Int)
def fC (x : ScT) (k : Nat) : Option W3 := x.2.2.2.2.1[k]?.bind fun c => celW c ((k + 1 : Nat) : Int)

def bigB (x : ScT) : Bool := decide ((x.1.length : Int) > 32) || decide ((x.2.1.length : Int) > 512) || decide ((x.2.2.1.length : Int) > 512) || decide (x.2.2.2.1 > 16)

def wC (x : ScT) : Option W3 := (firstF (fC x) 0 x.2.2.2.2.1.length).map (·.2)
def wL (x : ScT) : Option W3 := (firstF (fL x) 0 x.2.2.1.length).map (·.2)
def wT (x : ScT) : Option W3 := (firstF (fT x) 0 x.2.1.length).map (·.2)
def wM (x : ScT) : Option W3 := (firstF (fM x) 0 x.1.length).map (·.2)
def wZ (x : ScT) : Option W3 :=
  if decide (x.2.2.2.1 < 0) = true then some (10, 3, 0)
  else if ((x.2.2.2.2.1.length : Int) != W (8 * x.2.2.2.1)) = true then some (11, 14, 0) else wC x
def orElse' (a b : Option W3) : Option W3 := match a with
  | some w => some w
  | none => b
def wr (x : ScT) : Option W3 := if bigB x = true then some (10, 4, 0) else orElse' (wM x) (orElse' (wT x) (orElse' (orElse' (wL x) (wZ x)) (camW x)))

def lightB (x : ScT) : Prop := x.1.length ≤ 900 ∧ x.2.1.length ≤ 900 ∧ x.2.2.1.length ≤ 900 ∧ x.2.2.2.2.1.length ≤ 900

theorem in3_iff {p : W3} {lo hi : Int} : in3 p lo hi = true ↔ (lo ≤ p.1 ∧ p.1 ≤ hi) ∧ (lo ≤ p.2.1 ∧ p.2.1 ≤ hi) ∧ (lo ≤ p.2.2 ∧ p.2.2 ≤ hi) := by
  unfold in3
  simp only [Bool.and_eq_true, decide_eq_true_eq, ge_iff_le]
  constructor
  · rintro ⟨⟨⟨⟨⟨a, b⟩, c⟩, d⟩, e⟩, f⟩; exact ⟨⟨a, b⟩, ⟨c, d⟩, e, f⟩
  · rintro ⟨⟨a, b⟩, ⟨c, d⟩, e, f⟩; exact ⟨⟨⟨⟨⟨a, b⟩, c⟩, d⟩, e⟩, f⟩

theorem mats2 (e : ErrD) (lim : Int × Int) (i : Nat) (kd ks : W3) (r : Int) (l : List MatT) (n j : Int) (hi : i < 900) (h1 : in3 kd 0 9223372036854775807 = true) (h2 : in3 ks 0 9223372036854775807 = true) :
    ∃ ex k, scene_mats.l2 (e, lim, (i : Int), (kd, ks, r), l, n, j, List.take 3 [kd.1, kd.2.1, kd.2.2], ((List.take 3 [kd.1, kd.2.1, kd.2.2]).length : Int), 0, ()) =
      some (ex, (if exEq ex .ret = true then mkErr (some (11, 4, ((i + 1 : Nat) : Int))) else e), lim, (i : Int), (kd, ks, r), l, n, j, [kd.1, kd.2.1, kd.2.2], 3, k, ()) ∧
      ((ex = .exit 2 ∧ (over1 kd.1 ks.1 || over1 kd.2.1 ks.2.1 || over1 kd.2.2 ks.2.2) = false) ∨ (ex = .ret ∧ (over1 kd.1 ks.1 || over1 kd.2.1 ks.2.1 || over1 kd.2.2 ks.2.2) = true)) := by
  obtain ⟨⟨a1, a2⟩, ⟨a3, a4⟩, a5, a6⟩ := in3_iff.1 h1
  obtain ⟨⟨b1, b2⟩, ⟨b3, b4⟩, b5, b6⟩ := in3_iff.1 h2
  let st : Nat → ErrD × (Int × Int) × Int × MatT × List MatT × Int × Int × List Int × Int × Int × Unit := fun k => (e, lim, (i : Int), (kd, ks, r), l, n, j, [kd.1, kd.2.1, kd.2.2], 3, (k : Int), ())
  let f : Nat → Option W3 := fun k => if over1 ([kd.1, kd.2.1, kd.2.2].getD k 0) ([ks.1, ks.2.1, ks.2.2].getD k 0) = true then some (11, 4, ((i + 1 : Nat) : Int)) else none
  have step : ∀ k : Nat, k < 3 → ∃ a b, lget [kd.1, kd.2.1, kd.2.2] (k : Int) = some a ∧ lget (List.take 3 [ks.1, ks.2.1, ks.2.2]) (k : Int) = some b ∧ 0 ≤ a ∧ a ≤ 9223372036854775807 ∧ 0 ≤ b ∧ b ≤ 9223372036854775807 ∧ f k = (if over1 a b = true then some (11, 4, ((i + 1 : Nat) : Int)) else none) := by
    intro k hk
    rcases k with _ | _ | _ | k
    · exact ⟨kd.1, ks.1, rfl, rfl, a1, a2, b1, b2, rfl⟩
    · exact ⟨kd.2.1, ks.2.1, rfl, rfl, a3, a4, b3, b4, rfl⟩
    · exact ⟨kd.2.2, ks.2.2, rfl, rfl, a5, a6, b5, b6, rfl⟩
    · omega
  have hb : scene_broken (4, W ((i : Int) + 1)) = some (mkErr (some (11, 4, ((i + 1 : Nat) : Int)))) := by rw [nn (by omega)]; exact broken_eq (by decide)
  have hw : ∀ a b : Int, 0 ≤ a → a < 1024 → 0 ≤ b → W (a + if (1024 : Int) < b then 1024 else b) = a + if (1024 : Int) < b then 1024 else b := by
    intro a b q1 q2 q3
    split <;> exact W_id (by omega) (by omega)
  have run := iter_first (t := scene_mats.t2) st f (fun (k : Nat) w => (mkErr (some w), lim, (i : Int), (kd, ks, r), l, n, j, [kd.1, kd.2.1, kd.2.2], 3, (k : Int), ())) (e := .exit 2) (z := st 3) (by simp) 3 0 rounds
    (fun k _ hk hf => by
      obtain ⟨a, b, g1, g2, c1, c2, c3, c4, hfk⟩ := step k (by omega)
      have ho : over1 a b = false := by
        rw [hfk] at hf
        by_cases h : over1 a b = true
        · rw [if_pos h] at hf; cases hf
        · simpa using h
      unfold over1 at ho
      have ho := of_decide_eq_false ho
      show (scene_mats.t2 (e, lim, (i : Int), (kd, ks, r), l, n, j, [kd.1, kd.2.1, kd.2.2], 3, (k : Int), ())).run = _
      unfold scene_mats.t2
      dsimp only
      rw [tr_ite, decide_eq_true (by omega), if_pos rfl, tr_opt, g1, Option.bind_some, tr_ite, decide_eq_false (by omega), if_neg (by simp), tr_opt, g2, Option.bind_some, tr_ite, hw a b c1 (by omega) c3]
      rw [decide_eq_false (by split <;> omega), if_neg (by simp), tr_ret, W_succ (by omega)])
    (fun k w _ hk hf => by
      obtain ⟨a, b, g1, g2, c1, c2, c3, c4, hfk⟩ := step k (by omega)
      have ho : over1 a b = true ∧ w = (11, 4, ((i + 1 : Nat) : Int)) := by
        rw [hfk] at hf
        by_cases h : over1 a b = true
        · rw [if_pos h] at hf; cases hf; exact ⟨h, rfl⟩
        · rw [if_neg h] at hf; cases hf
      obtain ⟨ho, rfl⟩ := ho
      unfold over1 at ho
      have ho := of_decide_eq_true ho
      show (scene_mats.t2 (e, lim, (i : Int), (kd, ks, r), l, n, j, [kd.1, kd.2.1, kd.2.2], 3, (k : Int), ())).run = _
      unfold scene_mats.t2
      dsimp only
      rw [tr_ite, decide_eq_true (by omega), if_pos rfl, tr_opt, g1, Option.bind_some, tr_ite]
      by_cases hc : (1024 : Int) ≤ a
      · rw [decide_eq_true hc, if_pos rfl, tr_opt, hb, Option.bind_some, tr_ret]
      · rw [decide_eq_false hc, if_neg (by simp), tr_opt, g2, Option.bind_some, tr_ite, hw a b c1 (by omega) c3]
        rw [decide_eq_true (by split <;> omega), if_pos rfl, tr_opt, hb, Option.bind_some, tr_ret])
    (by
      show (scene_mats.t2 (e, lim, (i : Int), (kd, ks, r), l, n, j, [kd.1, kd.2.1, kd.2.2], 3, ((0 + 3 : Nat) : Int), ())).run = _
      unfold scene_mats.t2
      dsimp only
      rw [tr_ite, decide_eq_false (by omega), if_neg (by simp), tr_ret]) (rounds_gt (by omega))
  have hl : scene_mats.l2 (e, lim, (i : Int), (kd, ks, r), l, n, j, List.take 3 [kd.1, kd.2.1, kd.2.2], ((List.take 3 [kd.1, kd.2.1, kd.2.2]).length : Int), 0, ()) = _ := run
  rw [hl]
  have f0 : f 0 = if over1 kd.1 ks.1 = true then some (11, 4, ((i + 1 : Nat) : Int)) else none := rfl
  have f1 : f 1 = if over1 kd.2.1 ks.2.1 = true then some (11, 4, ((i + 1 : Nat) : Int)) else none := rfl
  have f2 : f 2 = if over1 kd.2.2 ks.2.2 = true then some (11, 4, ((i + 1 : Nat) : Int)) else none := rfl
  cases o1 : over1 kd.1 ks.1 with
  | true =>
    rw [o1, if_pos rfl] at f0
    refine ⟨.ret, 0, ?_, .inr ⟨rfl, by simp⟩⟩
    simp only [firstF, f0]; rfl
  | false =>
    rw [o1, if_neg (by simp)] at f0
    cases o2 : over1 kd.2.1 ks.2.1 with
    | true =>
      rw [o2, if_pos rfl] at f1
      refine ⟨.ret, 1, ?_, .inr ⟨rfl, by simp⟩⟩
      simp only [firstF, f0, f1]; rfl
    | false =>
      rw [o2, if_neg (by simp)] at f1
      cases o3 : over1 kd.2.2 ks.2.2 with
      | true =>
        rw [o3, if_pos rfl] at f2
        refine ⟨.ret, 2, ?_, .inr ⟨rfl, by simp⟩⟩
        simp only [firstF, f0, f1, f2]; rfl
      | false =>
        rw [o3, if_neg (by simp)] at f2
        refine ⟨.exit 2, 3, ?_, .inl ⟨rfl, by simp⟩⟩
        simp only [firstF, f0, f1, f2]; rfl

theorem mats_eq (x : ScT) (hx : x.1.length ≤ 900) : scene_mats x = some (mkErr (wM x)) := by
  have run := iter_first (t := scene_mats.t0) (fun k => (.nil, (0, 9223372036854775807), x.1, (x.1.length : Int), (k : Int), ())) (fM x) (fun k w => (mkErr (some w), (0, 9223372036854775807), x.1, (x.1.length : Int), (k : Int), ())) (e := .exit 0) (z := (.nil, (0, 9223372036854775807), x.1, (x.1.length : Int), (x.1.length : Int), ())) (by simp) x.1.length 0 rounds
    (fun k _ hk hf => by
      have hlt : k < x.1.length := by omega
      unfold fM at hf
      rw [List.getElem?_eq_getElem hlt, Option.bind_some] at hf
      generalize hm : x.1[k] = m at hf
      obtain ⟨kd, ks, r⟩ := m
      unfold matW at hf
      dsimp only at hf
      split at hf
      · cases hf
      rename_i hok
      have hok : (decide (1 ≤ r) && decide (r ≤ 1024) && in3 kd 0 9223372036854775807 && in3 ks 0 9223372036854775807) = true := nf hok
      simp only [Bool.and_eq_true] at hok
      obtain ⟨⟨⟨q1, q2⟩, q3⟩, q4⟩ := hok
      split at hf
      · cases hf
      rename_i hov
      obtain ⟨ex, j, e1, e2⟩ := mats2 .nil (0, 9223372036854775807) k kd ks r x.1 (x.1.length : Int) (k : Int) (by omega) q3 q4
      rcases e2 with ⟨rfl, _⟩ | ⟨_, e2⟩
      · unfold scene_mats.t0
        dsimp only
        rw [tr_ite, decide_eq_true (by omega), if_pos rfl, tr_opt, lget_nat x.1 hlt, Option.bind_some, hm, tr_opt]
        dsimp only
        rw [within1, Option.bind_some, tr_ite, q1, q2, if_neg (by simp), tr_opt, within3, Option.bind_some, tr_ite, q3, if_neg (by simp), tr_opt, within3, Option.bind_some, tr_ite, q4, if_neg (by simp), tr_opt, e1, Option.bind_some, tr_ite, if_pos (by rfl), tr_ret, W_succ (by omega)]
        rfl
      · exact absurd e2 hov)
    (fun k w _ hk hf => by
      have hlt : k < x.1.length := by omega
      unfold fM at hf
      rw [List.getElem?_eq_getElem hlt, Option.bind_some] at hf
      generalize hm : x.1[k] = m at hf
      obtain ⟨kd, ks, r⟩ := m
      have hb : scene_bound (3, W ((k : Int) + 1)) = some (mkErr (some (10, 3, ((k + 1 : Nat) : Int)))) := by rw [nn (by omega)]; exact bound_eq (by decide)
      unfold scene_mats.t0
      dsimp only
      rw [tr_ite, decide_eq_true (by omega), if_pos rfl, tr_opt, lget_nat x.1 hlt, Option.bind_some, hm, tr_opt]
      dsimp only
      rw [within1, Option.bind_some, tr_ite, tr_opt, hb]
      unfold matW at hf
      dsimp only at hf
      split at hf
      · rename_i hok
        cases hf
        cases q1 : (decide (1 ≤ r) && decide (r ≤ 1024))
        · rw [if_pos (by simp), Option.bind_some, tr_ret]
        · rw [if_neg (by simp), tr_opt, within3, Option.bind_some, tr_ite]
          cases q3 : in3 kd 0 9223372036854775807
          · rw [if_pos (by simp), tr_opt, Option.bind_some, tr_ret]
          · rw [if_neg (by simp), tr_opt, within3, Option.bind_some, tr_ite]
            cases q4 : in3 ks 0 9223372036854775807
            · rw [if_pos (by simp), tr_opt, Option.bind_some, tr_ret]
            · rw [q1, q3, q4] at hok; cases hok
      · rename_i hok
        have hok : (decide (1 ≤ r) && decide (r ≤ 1024) && in3 kd 0 9223372036854775807 && in3 ks 0 9223372036854775807) = true := nf hok
        simp only [Bool.and_eq_true] at hok
        obtain ⟨⟨⟨q1, q2⟩, q3⟩, q4⟩ := hok
        split at hf
        · rename_i hov
          cases hf
          obtain ⟨ex, j, e1, e2⟩ := mats2 .nil (0, 9223372036854775807) k kd ks r x.1 (x.1.length : Int) (k : Int) (by omega) q3 q4
          rcases e2 with ⟨_, e2⟩ | ⟨rfl, _⟩
          · rw [e2] at hov; cases hov
          · rw [q1, q2, if_neg (by simp), tr_opt, within3, Option.bind_some, tr_ite, q3, if_neg (by simp), tr_opt, within3, Option.bind_some, tr_ite, q4, if_neg (by simp), tr_opt, e1, Option.bind_some, tr_ite, if_neg (by simp [exEq]), tr_ite, if_pos (by rfl), tr_ret]
            rfl
        · cases hf)
    (by
      rw [Nat.zero_add]
      unfold scene_mats.t0
      dsimp only
      rw [tr_ite, decide_eq_false (by omega), if_neg (by simp), tr_ret]) (rounds_gt (by omega))
  have hl : scene_mats.l0 (.nil, (0, 9223372036854775807), x.1, (x.1.length : Int), 0, ()) = _ := run
  unfold scene_mats scene_mats.t
  rw [tr_opt, hl, Option.bind_some]
  unfold wM
  cases hf : firstF (fM x) 0 x.1.length with
  | none => rfl
  | some p => rfl

theorem tris_eq (x : ScT) (hx : x.2.1.length ≤ 900) : scene_tris x = some (mkErr (wT x)) := by
  have run := iter_first (t := scene_tris.t0) (fun k => (x, .nil, (-1048576, 1048576), x.2.1, (x.2.1.length : Int), (k : Int), ())) (fT x) (fun k w => (x, mkErr (some w), (-1048576, 1048576), x.2.1, (x.2.1.length : Int), (k : Int), ())) (e := .exit 0) (z := (x, .nil, (-1048576, 1048576), x.2.1, (x.2.1.length : Int), (x.2.1.length : Int), ())) (by simp) x.2.1.length 0 rounds
    (fun k _ hk hf => by
      have hlt : k < x.2.1.length := by omega
      unfold fT at hf
      rw [List.getElem?_eq_getElem hlt, Option.bind_some] at hf
      generalize hm : x.2.1[k] = m at hf
      unfold scene_tris.t0
      dsimp only
      rw [tr_ite, decide_eq_true (by omega), if_pos rfl, tr_opt, lget_nat x.2.1 hlt, Option.bind_some, hm, tr_ite]
      unfold triW at hf
      split at hf
      · cases hf
      rename_i h1
      rw [if_neg h1, tr_opt, within3, Option.bind_some, tr_ite]
      split at hf
      · cases hf
      rename_i h2
      have h2 : (in3 m.1 (-1048576) 1048576 && in3 m.2.1 (-1048576) 1048576 && in3 m.2.2.1 (-1048576) 1048576) = true := nf h2
      simp only [Bool.and_eq_true] at h2
      obtain ⟨⟨q1, q2⟩, q3⟩ := h2
      rw [q1, if_neg (by simp), tr_opt, within3, Option.bind_some, tr_ite, q2, if_neg (by simp), tr_opt, within3, Option.bind_some, tr_ite, q3, if_neg (by simp), tr_ite, W_sub0, W_sub0, W_sub0]
      split at hf
      · cases hf
      rename_i h3
      have h3' : ¬ (W (W (m.2.1.2.1 - m.1.2.1) * W (m.2.2.1.2.2 - m.1.2.2)) == W (W (m.2.1.2.2 - m.1.2.2) * W (m.2.2.1.2.1 - m.1.2.1)) && (W (W (m.2.1.2.2 - m.1.2.2) * W (m.2.2.1.1 - m.1.1)) == W (W (m.2.1.1 - m.1.1) * W (m.2.2.1.2.2 - m.1.2.2)) && W (W (m.2.1.1 - m.1.1) * W (m.2.2.1.2.1 - m.1.2.1)) == W (W (m.2.1.2.1 - m.1.2.1) * W (m.2.2.1.1 - m.1.1)))) = true := h3
      rw [if_neg h3', tr_ret, W_succ (by omega)])
    (fun k w _ hk hf => by
      have hlt : k < x.2.1.length := by omega
      unfold fT at hf
      rw [List.getElem?_eq_getElem hlt, Option.bind_some] at hf
      generalize hm : x.2.1[k] = m at hf
      have hb : scene_bound (3, W ((k : Int) + 1)) = some (mkErr (some (10, 3, ((k + 1 : Nat) : Int)))) := by rw [nn (by omega)]; exact bound_eq (by decide)
      have hb2 : scene_broken (2, W ((k : Int) + 1)) = some (mkErr (some (11, 2, ((k + 1 : Nat) : Int)))) := by rw [nn (by omega)]; exact broken_eq (by decide)
      have hb3 : scene_broken (13, W ((k : Int) + 1)) = some (mkErr (some (11, 13, ((k + 1 : Nat) : Int)))) := by rw [nn (by omega)]; exact broken_eq (by decide)
      unfold scene_tris.t0
      dsimp only
      rw [tr_ite, decide_eq_true (by omega), if_pos rfl, tr_opt, lget_nat x.2.1 hlt, Option.bind_some, hm, tr_ite]
      unfold triW at hf
      split at hf
      · rename_i h1
        cases hf
        rw [if_pos h1, tr_opt, hb2, Option.bind_some, tr_ret]
      rename_i h1
      rw [if_neg h1, tr_opt, within3, Option.bind_some, tr_ite, tr_opt, hb]
      split at hf
      · rename_i h2
        cases hf
        cases q1 : in3 m.1 (-1048576) 1048576
        · rw [if_pos (by simp), Option.bind_some, tr_ret]
        · rw [if_neg (by simp), tr_opt, within3, Option.bind_some, tr_ite]
          cases q2 : in3 m.2.1 (-1048576) 1048576
          · rw [if_pos (by simp), tr_opt, Option.bind_some, tr_ret]
          · rw [if_neg (by simp), tr_opt, within3, Option.bind_some, tr_ite]
            cases q3 : in3 m.2.2.1 (-1048576) 1048576
            · rw [if_pos (by simp), tr_opt, Option.bind_some, tr_ret]
            · rw [q1, q2, q3] at h2; cases h2
      rename_i h2
      have h2 : (in3 m.1 (-1048576) 1048576 && in3 m.2.1 (-1048576) 1048576 && in3 m.2.2.1 (-1048576) 1048576) = true := nf h2
      simp only [Bool.and_eq_true] at h2
      obtain ⟨⟨q1, q2⟩, q3⟩ := h2
      rw [q1, if_neg (by simp), tr_opt, within3, Option.bind_some, tr_ite, q2, if_neg (by simp), tr_opt, within3, Option.bind_some, tr_ite, q3, if_neg (by simp), tr_ite, W_sub0, W_sub0, W_sub0]
      split at hf
      · rename_i h3
        cases hf
        have h3' : (W (W (m.2.1.2.1 - m.1.2.1) * W (m.2.2.1.2.2 - m.1.2.2)) == W (W (m.2.1.2.2 - m.1.2.2) * W (m.2.2.1.2.1 - m.1.2.1)) && (W (W (m.2.1.2.2 - m.1.2.2) * W (m.2.2.1.1 - m.1.1)) == W (W (m.2.1.1 - m.1.1) * W (m.2.2.1.2.2 - m.1.2.2)) && W (W (m.2.1.1 - m.1.1) * W (m.2.2.1.2.1 - m.1.2.1)) == W (W (m.2.1.2.1 - m.1.2.1) * W (m.2.2.1.1 - m.1.1)))) = true := h3
        rw [if_pos h3', tr_opt, hb3, Option.bind_some, tr_ret]
      · cases hf)
    (by
      rw [Nat.zero_add]
      unfold scene_tris.t0
      dsimp only
      rw [tr_ite, decide_eq_false (by omega), if_neg (by simp), tr_ret]) (rounds_gt (by omega))
  have hl : scene_tris.l0 (x, .nil, (-1048576, 1048576), x.2.1, (x.2.1.length : Int), 0, ()) = _ := run
  unfold scene_tris scene_tris.t
  rw [tr_opt, hl, Option.bind_some]
  unfold wT
  cases hf : firstF (fT x) 0 x.2.1.length with
  | none => rfl
  | some p => rfl
end Go.Proofs.Pen

namespace Go.Proofs.Pen
open Go Go.Proofs

theorem ConL_eq (l : List LitT) (e : LitT) (h : l.length ≤ 900) : ConL (l, e) = some (l.any fun y => e.1 == y.1) := by
  have key : ∀ (n k m : Nat) (r : Int), k + n = l.length → n < m → ∃ ex a b, (iterT IdxL.t0 m (l, e, r, (l.length : Int), (k : Int), ())).run = some (ex, l, e, a, (l.length : Int), b, ()) ∧
      ((ex = .exit 0 ∧ ((l.drop k).any fun y => e.1 == y.1) = false) ∨ (ex = .ret ∧ 0 ≤ a ∧ ((l.drop k).any fun y => e.1 == y.1) = true)) := by
    intro n
    induction n with
    | zero =>
      intro k m r hk hm
      obtain ⟨m, rfl⟩ : ∃ j, m = j + 1 := ⟨m - 1, by omega⟩
      have hd : l.drop k = [] := List.drop_eq_nil_of_le (by omega)
      rw [hd]
      refine ⟨.exit 0, r, (k : Int), iter_stop (by simp) ?_, .inl ⟨rfl, rfl⟩⟩
      unfold IdxL.t0
      dsimp only
      rw [tr_ite, decide_eq_false (by omega), if_neg (by simp), tr_ret]
    | succ n ih =>
      intro k m r hk hm
      obtain ⟨m, rfl⟩ : ∃ j, m = j + 1 := ⟨m - 1, by omega⟩
      have hlt : k < l.length := by omega
      have hd : l.drop k = l[k] :: l.drop (k + 1) := List.drop_eq_getElem_cons hlt
      rw [hd, List.any_cons]
      cases hc : e.1 == l[k].1 with
      | true =>
        refine ⟨.ret, (k : Int), (k : Int), iter_stop (by simp) ?_, .inr ⟨rfl, by omega, by simp⟩⟩
        unfold IdxL.t0
        dsimp only
        rw [tr_ite, decide_eq_true (by omega), if_pos rfl, tr_opt, lget_nat l hlt, Option.bind_some, tr_ite, hc, if_pos rfl, tr_ret]
      | false =>
        obtain ⟨ex, a, b, h1, h2⟩ := ih (k + 1) m r (by omega) (by omega)
        refine ⟨ex, a, b, ?_, by simpa using h2⟩
        have h0 : (IdxL.t0 (l, e, r, (l.length : Int), (k : Int), ())).run = some (.normal, l, e, r, (l.length : Int), ((k + 1 : Nat) : Int), ()) := by
          unfold IdxL.t0
          dsimp only
          rw [tr_ite, decide_eq_true (by omega), if_pos rfl, tr_opt, lget_nat l hlt, Option.bind_some, tr_ite, hc, if_neg (by simp), tr_ret, W_succ (by omega)]
        rw [iter_go h0]; exact h1
  obtain ⟨ex, a, b, h1, h2⟩ := key l.length 0 rounds 0 (by omega) (rounds_gt (by omega))
  rw [List.drop_zero] at h2
  have hl : IdxL.l0 (l, e, 0, (l.length : Int), 0, ()) = some (ex, l, e, a, (l.length : Int), b, ()) := h1
  have hi : ∃ i, IdxL (l, e) = some i ∧ decide (i ≥ 0) = (l.any fun y => e.1 == y.1) := by
    unfold IdxL IdxL.t
    dsimp only
    rw [tr_opt, hl, Option.bind_some]
    rcases h2 with ⟨rfl, h2⟩ | ⟨rfl, h3, h2⟩
    · exact ⟨-1, rfl, by rw [h2]; rfl⟩
    · exact ⟨a, rfl, by rw [h2]; exact decide_eq_true h3⟩
  obtain ⟨i, e1, e2⟩ := hi
  unfold ConL ConL.t
  rw [tr_opt, e1, Option.bind_some, tr_ret, e2]

theorem cells_eq (x : ScT) (e : ErrD) (hx : x.2.2.2.2.1.length ≤ 900) : scene_lights.l2 (e, (0, 67108863), x.2.2.2.2.1, (x.2.2.2.2.1.length : Int), 0, ()) =
    some (match firstF (fC x) 0 x.2.2.2.2.1.length with | some (i, w) => (.ret, mkErr (some w), (0, 67108863), x.2.2.2.2.1, (x.2.2.2.2.1.length : Int), (i : Int), ()) | none => (.exit 2, e, (0, 67108863), x.2.2.2.2.1, (x.2.2.2.2.1.length : Int), (x.2.2.2.2.1.length : Int), ())) :=
  iter_first (t := scene_lights.t2) (fun k => (e, (0, 67108863), x.2.2.2.2.1, (x.2.2.2.2.1.length : Int), (k : Int), ())) (fC x) (fun k w => (mkErr (some w), (0, 67108863), x.2.2.2.2.1, (x.2.2.2.2.1.length : Int), (k : Int), ())) (e := .exit 2) (z := (e, (0, 67108863), x.2.2.2.2.1, (x.2.2.2.2.1.length : Int), (x.2.2.2.2.1.length : Int), ())) (by simp) x.2.2.2.2.1.length 0 rounds
    (fun k _ hk hf => by
      have hlt : k < x.2.2.2.2.1.length := by omega
      unfold fC at hf
      rw [List.getElem?_eq_getElem hlt, Option.bind_some] at hf
      generalize hm : x.2.2.2.2.1[k] = m at hf
      unfold scene_lights.t2
      dsimp only
      rw [tr_ite, decide_eq_true (by omega), if_pos rfl, tr_opt, lget_nat x.2.2.2.2.1 hlt, Option.bind_some, hm, tr_opt, within3, Option.bind_some, tr_ite]
      unfold celW at hf
      split at hf
      · cases hf
      rename_i h1
      have h1 : in3 m 0 67108863 = true := nf h1
      rw [h1, if_neg (by simp), tr_ret, W_succ (by omega)])
    (fun k w _ hk hf => by
      have hlt : k < x.2.2.2.2.1.length := by omega
      unfold fC at hf
      rw [List.getElem?_eq_getElem hlt, Option.bind_some] at hf
      generalize hm : x.2.2.2.2.1[k] = m at hf
      have hb : scene_bound (3, W ((k : Int) + 1)) = some (mkErr (some (10, 3, ((k + 1 : Nat) : Int)))) := by rw [nn (by omega)]; exact bound_eq (by decide)
      unfold scene_lights.t2
      dsimp only
      rw [tr_ite, decide_eq_true (by omega), if_pos rfl, tr_opt, lget_nat x.2.2.2.2.1 hlt, Option.bind_some, hm, tr_opt, within3, Option.bind_some, tr_ite]
      unfold celW at hf
      split at hf
      · rename_i h1
        cases hf
        rw [h1, if_pos (by simp), tr_opt, hb, Option.bind_some, tr_ret]
      · cases hf)
    (by
      rw [Nat.zero_add]
      unfold scene_lights.t2
      dsimp only
      rw [tr_ite, decide_eq_false (by omega), if_neg (by simp), tr_ret]) (rounds_gt (by omega))

theorem lits_eq (x : ScT) (hx : x.2.2.1.length ≤ 900) : scene_lights.l0 (x, .nil, (0, 67108863), x.2.2.1, (x.2.2.1.length : Int), 0, ()) =
    some (match firstF (fL x) 0 x.2.2.1.length with | some (i, w) => (.ret, x, mkErr (some w), (0, 67108863), x.2.2.1, (x.2.2.1.length : Int), (i : Int), ()) | none => (.exit 0, x, .nil, (0, 67108863), x.2.2.1, (x.2.2.1.length : Int), (x.2.2.1.length : Int), ())) :=
  iter_first (t := scene_lights.t0) (fun k => (x, .nil, (0, 67108863), x.2.2.1, (x.2.2.1.length : Int), (k : Int), ())) (fL x) (fun k w => (x, mkErr (some w), (0, 67108863), x.2.2.1, (x.2.2.1.length : Int), (k : Int), ())) (e := .exit 0) (z := (x, .nil, (0, 67108863), x.2.2.1, (x.2.2.1.length : Int), (x.2.2.1.length : Int), ())) (by simp) x.2.2.1.length 0 rounds
    (fun k _ hk hf => by
      have hlt : k < x.2.2.1.length := by omega
      unfold fL at hf
      rw [List.getElem?_eq_getElem hlt, Option.bind_some] at hf
      generalize hm : x.2.2.1[k] = m at hf
      have hsl : (decide ((0 : Int) ≤ 0) && decide ((0 : Int) ≤ (k : Int)) && decide ((k : Int) ≤ (x.2.2.1.length : Int))) = true := by
        rw [decide_eq_true (by omega), decide_eq_true (by omega), decide_eq_true (by omega)]; rfl
      have hcon : ConL (List.take (Int.toNat (k : Int) - Int.toNat 0) (List.drop (Int.toNat 0) x.2.2.1), m) = some ((x.2.2.1.take k).any fun y => m.1 == y.1) := by
        have : List.take (Int.toNat (k : Int) - Int.toNat 0) (List.drop (Int.toNat 0) x.2.2.1) = x.2.2.1.take k := by simp
        rw [this]; exact ConL_eq _ _ (by rw [List.length_take]; omega)
      unfold scene_lights.t0
      dsimp only
      rw [tr_ite, decide_eq_true (by omega), if_pos rfl, tr_opt, lget_nat x.2.2.1 hlt, Option.bind_some, hm, tr_ite, hsl, if_pos rfl, tr_opt, hcon, Option.bind_some, tr_ite]
      unfold litW at hf
      split at hf
      · cases hf
      rename_i h0
      rw [if_neg h0, tr_opt, within3, Option.bind_some, tr_ite]
      split at hf
      · cases hf
      rename_i h1
      have h1 : in3 m.2 0 67108863 = true := nf h1
      rw [h1, if_neg (by simp), tr_ret, W_succ (by omega)])
    (fun k w _ hk hf => by
      have hlt : k < x.2.2.1.length := by omega
      unfold fL at hf
      rw [List.getElem?_eq_getElem hlt, Option.bind_some] at hf
      generalize hm : x.2.2.1[k] = m at hf
      have hb : scene_bound (3, W ((k : Int) + 1)) = some (mkErr (some (10, 3, ((k + 1 : Nat) : Int)))) := by rw [nn (by omega)]; exact bound_eq (by decide)
      have hb2 : scene_broken (2, W ((k : Int) + 1)) = some (mkErr (some (11, 2, ((k + 1 : Nat) : Int)))) := by rw [nn (by omega)]; exact broken_eq (by decide)
      have hsl : (decide ((0 : Int) ≤ 0) && decide ((0 : Int) ≤ (k : Int)) && decide ((k : Int) ≤ (x.2.2.1.length : Int))) = true := by
        rw [decide_eq_true (by omega), decide_eq_true (by omega), decide_eq_true (by omega)]; rfl
      have hcon : ConL (List.take (Int.toNat (k : Int) - Int.toNat 0) (List.drop (Int.toNat 0) x.2.2.1), m) = some ((x.2.2.1.take k).any fun y => m.1 == y.1) := by
        have : List.take (Int.toNat (k : Int) - Int.toNat 0) (List.drop (Int.toNat 0) x.2.2.1) = x.2.2.1.take k := by simp
        rw [this]; exact ConL_eq _ _ (by rw [List.length_take]; omega)
      unfold scene_lights.t0
      dsimp only
      rw [tr_ite, decide_eq_true (by omega), if_pos rfl, tr_opt, lget_nat x.2.2.1 hlt, Option.bind_some, hm, tr_ite, hsl, if_pos rfl, tr_opt, hcon, Option.bind_some, tr_ite]
      unfold litW at hf
      split at hf
      · rename_i h0
        cases hf
        rw [if_pos h0, tr_opt, hb2, Option.bind_some, tr_ret]
      rename_i h0
      rw [if_neg h0, tr_opt, within3, Option.bind_some, tr_ite]
      split at hf
      · rename_i h1
        cases hf
        rw [h1, if_pos (by simp), tr_opt, hb, Option.bind_some, tr_ret]
      · cases hf)
    (by
      rw [Nat.zero_add]
      unfold scene_lights.t0
      dsimp only
      rw [tr_ite, decide_eq_false (by omega), if_neg (by simp), tr_ret]) (rounds_gt (by omega))

theorem lights_eq (x : ScT) (hx : x.2.2.1.length ≤ 900) (hc : x.2.2.2.2.1.length ≤ 900) : scene_lights x = some (mkErr (orElse' (wL x) (wZ x))) := by
  have hb : scene_bound (3, 0) = some (mkErr (some (10, 3, 0))) := bound_eq (by decide)
  have hb2 : scene_broken (14, 0) = some (mkErr (some (11, 14, 0))) := broken_eq (by decide)
  unfold scene_lights scene_lights.t
  rw [tr_opt, lits_eq x hx, Option.bind_some]
  unfold wL
  cases hf : firstF (fL x) 0 x.2.2.1.length with
  | some p => rfl
  | none =>
    dsimp only
    rw [tr_ite, if_pos (by rfl), tr_ite, tr_opt, hb, Option.bind_some, tr_ret]
    show _ = some (mkErr (wZ x))
    unfold wZ
    by_cases h1 : decide (x.2.2.2.1 < 0) = true
    · rw [if_pos h1, if_pos h1]
    · rw [if_neg h1, if_neg h1, tr_ite, tr_opt, hb2, Option.bind_some, tr_ret]
      by_cases h2 : ((x.2.2.2.2.1.length : Int) != W (8 * x.2.2.2.1)) = true
      · rw [if_pos h2, if_pos h2]
      · rw [if_neg h2, if_neg h2, tr_opt, cells_eq x .nil hc, Option.bind_some]
        unfold wC
        cases hf : firstF (fC x) 0 x.2.2.2.2.1.length with
        | some p => rfl
        | none => rfl

theorem camera_eq (x : ScT) : scene_camera x = some (mkErr (camW x)) := by
  have hb : scene_bound (3, 0) = some (mkErr (some (10, 3, 0))) := bound_eq (by decide)
  have hb2 : scene_broken (13, 0) = some (mkErr (some (11, 13, 0))) := broken_eq (by decide)
  have hb3 : scene_broken (2, 0) = some (mkErr (some (11, 2, 0))) := broken_eq (by decide)
  unfold scene_camera scene_camera.t camW
  dsimp only
  rw [tr_opt, within3, Option.bind_some, tr_ite, tr_opt, hb, Option.bind_some, tr_ret]
  cases q1 : in3 x.2.2.2.2.2.1.1 (-1048576) 1048576
  · rw [if_pos (by rfl), if_pos (by rfl)]
  rw [if_neg (by simp), tr_opt, within3, Option.bind_some, tr_ite, tr_opt, Option.bind_some, tr_ret]
  cases q2 : in3 x.2.2.2.2.2.1.2.1 (-1048576) 1048576
  · rw [if_pos (by rfl), if_pos (by rfl)]
  rw [if_neg (by simp), tr_opt, within3, Option.bind_some, tr_ite, tr_opt, Option.bind_some, tr_ret]
  cases q3 : in3 x.2.2.2.2.2.1.2.2.1 (-1048576) 1048576
  · rw [if_pos (by rfl), if_pos (by rfl)]
  have hw2 : scene_within_1 (List.take 2 [x.2.2.2.2.2.1.2.2.2.1, x.2.2.2.2.2.1.2.2.2.2.2], 1, 1048576) = some (inB 1 1048576 [x.2.2.2.2.2.1.2.2.2.1, x.2.2.2.2.2.1.2.2.2.2.2]) := within_eq _ _ _ _ (by simp)
  have hi2 : inB 1 1048576 [x.2.2.2.2.2.1.2.2.2.1, x.2.2.2.2.2.1.2.2.2.2.2] = ((decide (1 ≤ x.2.2.2.2.2.1.2.2.2.1) && decide (x.2.2.2.2.2.1.2.2.2.1 ≤ 1048576)) && (decide (1 ≤ x.2.2.2.2.2.1.2.2.2.2.2) && decide (x.2.2.2.2.2.1.2.2.2.2.2 ≤ 1048576))) := by
    unfold inB; simp only [List.all_cons, List.all_nil, Bool.and_true]
  rw [if_neg (by simp), tr_opt, hw2, Option.bind_some, tr_ite, tr_opt, Option.bind_some, tr_ret, hi2]
  cases q4 : (decide (1 ≤ x.2.2.2.2.2.1.2.2.2.1) && decide (x.2.2.2.2.2.1.2.2.2.1 ≤ 1048576))
  · rw [if_pos (by rfl), if_pos (by rfl)]
  cases q5 : (decide (1 ≤ x.2.2.2.2.2.1.2.2.2.2.2) && decide (x.2.2.2.2.2.1.2.2.2.2.2 ≤ 1048576))
  · rw [if_pos (by rfl), if_pos (by rfl)]
  rw [if_neg (by simp), tr_opt, within1, Option.bind_some, tr_ite, tr_opt, Option.bind_some, tr_ret]
  cases q6 : (decide (0 ≤ x.2.2.2.2.2.1.2.2.2.2.1) && decide (x.2.2.2.2.2.1.2.2.2.2.1 ≤ 1048576))
  · rw [if_pos (by rfl), if_pos (by rfl)]
  rw [if_neg (by simp), if_neg (by simp), tr_ite, W_sub0, W_sub0, W_sub0, tr_opt, hb2, Option.bind_some, tr_ret]
  have hfl : (W (W (x.2.2.2.2.2.1.2.1.2.1 - x.2.2.2.2.2.1.1.2.1) * x.2.2.2.2.2.1.2.2.1.2.2) == W (W (x.2.2.2.2.2.1.2.1.2.2 - x.2.2.2.2.2.1.1.2.2) * x.2.2.2.2.2.1.2.2.1.2.1) && (W (W (x.2.2.2.2.2.1.2.1.2.2 - x.2.2.2.2.2.1.1.2.2) * x.2.2.2.2.2.1.2.2.1.1) == W (W (x.2.2.2.2.2.1.2.1.1 - x.2.2.2.2.2.1.1.1) * x.2.2.2.2.2.1.2.2.1.2.2) && W (W (x.2.2.2.2.2.1.2.1.1 - x.2.2.2.2.2.1.1.1) * x.2.2.2.2.2.1.2.2.1.2.1) == W (W (x.2.2.2.2.2.1.2.1.2.1 - x.2.2.2.2.2.1.1.2.1) * x.2.2.2.2.2.1.2.2.1.1))) = flatB (lessW x.2.2.2.2.2.1.2.1 x.2.2.2.2.2.1.1) x.2.2.2.2.2.1.2.2.1 := rfl
  rw [hfl]
  cases q7 : flatB (lessW x.2.2.2.2.2.1.2.1 x.2.2.2.2.2.1.1) x.2.2.2.2.2.1.2.2.1
  · rw [if_neg (by simp), if_neg (by simp), tr_ite, tr_opt, hb3, Option.bind_some, tr_ret]
    cases q8 : (x.2.2.2.2.2.2.1 != 1 && x.2.2.2.2.2.2.1 != 2)
    · rw [if_neg (by simp), if_neg (by simp), tr_opt, within1, Option.bind_some, tr_ite, tr_opt, Option.bind_some, tr_ret]
      cases q9 : (decide (1 ≤ x.2.2.2.2.2.2.2) && decide (x.2.2.2.2.2.2.2 ≤ 8192))
      · rw [if_pos (by rfl), if_pos (by rfl)]
      · rw [if_neg (by simp), if_neg (by simp)]; rfl
    · rw [if_pos (by rfl), if_pos (by rfl)]
  · rw [if_pos (by rfl), if_pos (by rfl)]

theorem mkErr_nil (w : Option W3) : (mkErr w).isNil = w.isNone := by cases w <;> rfl

theorem Check_eq (x : ScT) (h : lightB x) : scene_Check x = some (mkErr (wr x)) := by
  obtain ⟨h1, h2, h3, h4⟩ := h
  have hb : scene_bound (4, 0) = some (mkErr (some (10, 4, 0))) := bound_eq (by decide)
  have hm : scene_many x = some (mkErr (if bigB x = true then some (10, 4, 0) else none)) := by
    unfold scene_many scene_many.t
    rw [tr_ite, tr_opt, hb, Option.bind_some, tr_ret]
    show (if bigB x = true then _ else _) = _
    by_cases hbig : bigB x = true
    · rw [if_pos hbig, if_pos hbig]
    · rw [if_neg hbig, if_neg hbig]; rfl
  unfold scene_Check scene_Check.t wr
  rw [tr_opt, hm, Option.bind_some, tr_ite, mkErr_nil]
  by_cases hbig : bigB x = true
  · rw [if_pos hbig, if_pos (by rfl), tr_ret, if_pos hbig]
  · rw [if_neg hbig, if_neg (by simp), tr_opt, mats_eq x h1, Option.bind_some, tr_ite, mkErr_nil, if_neg hbig]
    cases e1 : wM x with
    | some w => rfl
    | none =>
      rw [if_neg (by simp), tr_opt, tris_eq x h2, Option.bind_some, tr_ite, mkErr_nil]
      cases e2 : wT x with
      | some w => rfl
      | none =>
        rw [if_neg (by simp), tr_opt, lights_eq x h3 h4, Option.bind_some, tr_ite, mkErr_nil]
        show _ = some (mkErr (orElse' (orElse' (wL x) (wZ x)) (camW x)))
        cases e3 : orElse' (wL x) (wZ x) with
        | some w => rw [if_pos (by rfl), tr_ret]; rfl
        | none => rw [if_neg (by simp), tr_opt, camera_eq, Option.bind_some, tr_ret]; rfl
end Go.Proofs.Pen

namespace Go.Proofs.Pen
open Go Go.Proofs

theorem beqC (a b : Int) : (a == b) = (b == a) := by
  rw [Bool.eq_iff_iff, beq_iff_eq, beq_iff_eq]; exact eq_comm

theorem rmat_eq (m : MatT) (p : Int) : ref22_mat (m, p) = some (mkW (matW m p)) := by
  unfold ref22_mat ref22_mat.t
  show ((T.ite (decide (m.2.2 < 1) || decide (m.2.2 > 1024)) (T.ret (10, 3, p)) (T.ite (!(in3 m.1 0 9223372036854775807)) (T.ret (10, 3, p)) (T.ite (!(in3 m.2.1 0 9223372036854775807)) (T.ret (10, 3, p)) (T.ite (!(in3 m.1 0 1023) || decide (m.2.1.1 > W (1023 - m.1.1)) || decide (m.2.1.2.1 > W (1023 - m.1.2.1)) || decide (m.2.1.2.2 > W (1023 - m.1.2.2))) (T.ret (11, 4, p)) (T.ret (0, 0, 0)))))).run : Option W3) = _
  unfold matW
  rw [tr_ite, tr_ret, tr_ite, tr_ret, tr_ite, tr_ret, tr_ite, tr_ret, tr_ret]
  have e0 : (decide (m.2.2 < 1) || decide (m.2.2 > 1024)) = !(decide (1 ≤ m.2.2) && decide (m.2.2 ≤ 1024)) := by
    rw [Bool.eq_iff_iff]; first | (simp; done) | (simp; omega)
  rw [e0]
  cases q1 : (decide (1 ≤ m.2.2) && decide (m.2.2 ≤ 1024))
  · rfl
  cases q3 : in3 m.1 0 9223372036854775807
  · rfl
  cases q4 : in3 m.2.1 0 9223372036854775807
  · rfl
  simp only [Bool.not_true, Bool.false_eq_true, if_false, Bool.and_self, Bool.true_eq_false]
  obtain ⟨⟨a1, a2⟩, ⟨a3, a4⟩, a5, a6⟩ := in3_iff.1 q3
  obtain ⟨⟨b1, b2⟩, ⟨b3, b4⟩, b5, b6⟩ := in3_iff.1 q4
  have e : (!(in3 m.1 0 1023) || decide (m.2.1.1 > W (1023 - m.1.1)) || decide (m.2.1.2.1 > W (1023 - m.1.2.1)) || decide (m.2.1.2.2 > W (1023 - m.1.2.2))) = (over1 m.1.1 m.2.1.1 || over1 m.1.2.1 m.2.1.2.1 || over1 m.1.2.2 m.2.1.2.2) := by
    rw [W_id (by omega) (by omega), W_id (by omega) (by omega), W_id (by omega) (by omega), Bool.eq_iff_iff]
    unfold over1 in3
    simp only [Bool.or_eq_true, Bool.not_eq_true', Bool.and_eq_false_iff, decide_eq_true_eq, decide_eq_false_iff_not, ge_iff_le, gt_iff_lt]
    omega
  rw [e]
  cases (over1 m.1.1 m.2.1.1 || over1 m.1.2.1 m.2.1.2.1 || over1 m.1.2.2 m.2.1.2.2) <;> rfl

theorem rtri_eq (t : TriT) (nm p : Int) : ref22_tri (t, nm, p) = some (mkW (triW nm t p)) := by
  have hfl : (W (W (t.2.1.2.1 - t.1.2.1) * W (t.2.2.1.2.2 - t.1.2.2)) == W (W (t.2.1.2.2 - t.1.2.2) * W (t.2.2.1.2.1 - t.1.2.1)) && W (W (t.2.1.2.2 - t.1.2.2) * W (t.2.2.1.1 - t.1.1)) == W (W (t.2.1.1 - t.1.1) * W (t.2.2.1.2.2 - t.1.2.2)) && W (W (t.2.1.1 - t.1.1) * W (t.2.2.1.2.1 - t.1.2.1)) == W (W (t.2.1.2.1 - t.1.2.1) * W (t.2.2.1.1 - t.1.1))) = flatB (lessW t.2.1 t.1) (lessW t.2.2.1 t.1) := by
    rw [Bool.and_assoc]; rfl
  unfold ref22_tri ref22_tri.t
  dsimp only
  rw [hfl]
  show ((T.ite (decide (t.2.2.2 < 0) || decide (t.2.2.2 ≥ nm)) (T.ret (11, 2, p)) (T.ite (!(in3 t.1 (-1048576) 1048576)) (T.ret (10, 3, p)) (T.ite (!(in3 t.2.1 (-1048576) 1048576)) (T.ret (10, 3, p)) (T.ite (!(in3 t.2.2.1 (-1048576) 1048576)) (T.ret (10, 3, p)) (T.ite (flatB (lessW t.2.1 t.1) (lessW t.2.2.1 t.1)) (T.ret (11, 13, p)) (T.ret (0, 0, 0))))))).run : Option W3) = _
  unfold triW
  rw [tr_ite, tr_ret, tr_ite, tr_ret, tr_ite, tr_ret, tr_ite, tr_ret, tr_ite, tr_ret, tr_ret]
  cases (decide (t.2.2.2 < 0) || decide (t.2.2.2 ≥ nm)) <;> cases in3 t.1 (-1048576) 1048576 <;> cases in3 t.2.1 (-1048576) 1048576 <;> cases in3 t.2.2.1 (-1048576) 1048576 <;> cases flatB (lessW t.2.1 t.1) (lessW t.2.2.1 t.1) <;> rfl

theorem twice_eq (l : List LitT) (k : Nat) (nt : Int) (hk : k < l.length) (hl : l.length ≤ 900) : ∃ j, ref22_light.l0 (l, (k : Int), nt, (0, 0, 0), false, 0, ()) = some (.exit 0, l, (k : Int), nt, (0, 0, 0), (l.take k).any fun y => l[k].1 == y.1, j, ()) := by
  have := iter_count (t := ref22_light.t0) (fun i => ((l, (k : Int), nt, (0, 0, 0), (l.take i).any fun y => l[k].1 == y.1, (i : Int), ()) : List LitT × Int × Int × W3 × Bool × Int × Unit)) (e := .exit 0) (z := (l, (k : Int), nt, (0, 0, 0), (l.take k).any fun y => l[k].1 == y.1, (k : Int), ())) (by simp) k 0 rounds (fun i _ hi => ?_) ?_ (rounds_gt (by omega))
  · exact ⟨(k : Int), this⟩
  · have hlt : i < l.length := by omega
    have hs : ((l.take (i + 1)).any fun y => l[k].1 == y.1) = (((l.take i).any fun y => l[k].1 == y.1) || (l[i].1 == l[k].1)) := by
      rw [List.take_succ_eq_append_getElem hlt, List.any_append, beqC l[i].1]; simp
    unfold ref22_light.t0
    dsimp only
    rw [tr_ite, decide_eq_true (by omega), if_pos rfl, tr_ite, hs, tr_opt, lget_nat l hlt, Option.bind_some, tr_opt, lget_nat l hk, Option.bind_some, tr_ret, tr_ret, W_succ (by omega)]
    cases (l.take i).any fun y => l[k].1 == y.1
    · rw [if_neg (by simp), Bool.false_or]
    · rw [if_pos rfl, Bool.true_or]
  · rw [Nat.zero_add]
    unfold ref22_light.t0
    dsimp only
    rw [tr_ite, decide_eq_false (by omega), if_neg (by simp), tr_ret]

theorem rlit_eq (l : List LitT) (k : Nat) (nt : Int) (hk : k < l.length) (hl : l.length ≤ 900) : ref22_light (l, (k : Int), nt) = some (mkW (litW nt (l.take k) l[k] ((k + 1 : Nat) : Int))) := by
  obtain ⟨j, hj⟩ := twice_eq l k nt hk hl
  unfold ref22_light ref22_light.t
  dsimp only
  rw [tr_opt, hj, Option.bind_some, tr_ite, if_pos (by rfl), tr_opt]
  dsimp only
  rw [lget_nat l hk, Option.bind_some, tr_ite, W_succ (by omega), tr_ret, tr_opt, Option.bind_some, tr_ite, tr_ret, tr_opt, Option.bind_some, tr_ite, tr_ret, tr_ret]
  unfold litW
  have hin : (decide (l[k].2.1 ≥ 0) && decide (l[k].2.1 ≤ 67108863) && decide (l[k].2.2.1 ≥ 0) && decide (l[k].2.2.1 ≤ 67108863) && decide (l[k].2.2.2 ≥ 0) && decide (l[k].2.2.2 ≤ 67108863)) = in3 l[k].2 0 67108863 := rfl
  rw [hin]
  cases decide (l[k].1 < 0) <;> cases decide (l[k].1 ≥ nt) <;> cases ((l.take k).any fun y => l[k].1 == y.1) <;> cases in3 l[k].2 0 67108863 <;> rfl

theorem rcells_eq (x : ScT) (hx : x.2.2.2.2.1.length ≤ 900) : ref22_rest.l0 (x, (0, 0, 0), 0, ()) =
    some (match firstF (fC x) 0 x.2.2.2.2.1.length with | some (i, w) => (.ret, x, w, (i : Int), ()) | none => (.exit 0, x, (0, 0, 0), (x.2.2.2.2.1.length : Int), ())) :=
  iter_first (t := ref22_rest.t0) (fun k => (x, (0, 0, 0), (k : Int), ())) (fC x) (fun k w => (x, w, (k : Int), ())) (e := .exit 0) (z := (x, (0, 0, 0), (x.2.2.2.2.1.length : Int), ())) (by simp) x.2.2.2.2.1.length 0 rounds
    (fun k _ hk hf => by
      have hlt : k < x.2.2.2.2.1.length := by omega
      unfold fC at hf
      rw [List.getElem?_eq_getElem hlt, Option.bind_some] at hf
      generalize hm : x.2.2.2.2.1[k] = m at hf
      unfold celW at hf
      split at hf
      · cases hf
      rename_i h1
      have h1 : (decide (m.1 ≥ 0) && decide (m.1 ≤ 67108863) && decide (m.2.1 ≥ 0) && decide (m.2.1 ≤ 67108863) && decide (m.2.2 ≥ 0) && decide (m.2.2 ≤ 67108863)) = true := by
        have : in3 m 0 67108863 = true := by simpa using h1
        exact this
      unfold ref22_rest.t0
      dsimp only
      rw [tr_ite, decide_eq_true (by omega), if_pos rfl, tr_opt, lget_nat x.2.2.2.2.1 hlt, Option.bind_some, hm, tr_ite, h1, if_neg (by simp), tr_ret, W_succ (by omega)])
    (fun k w _ hk hf => by
      have hlt : k < x.2.2.2.2.1.length := by omega
      unfold fC at hf
      rw [List.getElem?_eq_getElem hlt, Option.bind_some] at hf
      generalize hm : x.2.2.2.2.1[k] = m at hf
      unfold celW at hf
      split at hf
      · rename_i h1
        cases hf
        have h1 : (decide (m.1 ≥ 0) && decide (m.1 ≤ 67108863) && decide (m.2.1 ≥ 0) && decide (m.2.1 ≤ 67108863) && decide (m.2.2 ≥ 0) && decide (m.2.2 ≤ 67108863)) = false := h1
        unfold ref22_rest.t0
        dsimp only
        rw [tr_ite, decide_eq_true (by omega), if_pos rfl, tr_opt, lget_nat x.2.2.2.2.1 hlt, Option.bind_some, hm, tr_ite, h1, if_pos (by rfl), tr_ret, nn (by omega)]
      · cases hf)
    (by
      rw [Nat.zero_add]
      unfold ref22_rest.t0
      dsimp only
      rw [tr_ite, decide_eq_false (by omega), if_neg (by simp), tr_ret]) (rounds_gt (by omega))

theorem W_sub_zero {a : Int} (h1 : -1048576 ≤ a) (h2 : a ≤ 1048576) : W (a - 0) = a := by rw [Int.sub_zero]; exact W_id (by omega) (by omega)

theorem rest_eq (x : ScT) (hx : x.2.2.2.2.1.length ≤ 900) : ref22_rest x = some (mkW (orElse' (wZ x) (camW x))) := by
  unfold ref22_rest ref22_rest.t wZ
  rw [tr_ite, tr_ret]
  by_cases h1 : decide (x.2.2.2.1 < 0) = true
  · rw [if_pos h1, if_pos h1]; rfl
  rw [if_neg h1, if_neg h1, tr_ite, tr_ret]
  by_cases h2 : ((x.2.2.2.2.1.length : Int) != W (8 * x.2.2.2.1)) = true
  · rw [if_pos h2, if_pos h2]; rfl
  rw [if_neg h2, if_neg h2, tr_opt, rcells_eq x hx, Option.bind_some]
  unfold wC
  cases hf : firstF (fC x) 0 x.2.2.2.2.1.length with
  | some p => rfl
  | none =>
    dsimp only
    rw [tr_ite, if_pos (by rfl)]
    show _ = some (mkW (camW x))
    unfold camW
    dsimp only
    generalize hc : x.2.2.2.2.2.1 = c
    have e1 : (decide (c.1.1 ≥ -1048576) && decide (c.1.1 ≤ 1048576) && decide (c.1.2.1 ≥ -1048576) && decide (c.1.2.1 ≤ 1048576) && decide (c.1.2.2 ≥ -1048576) && decide (c.1.2.2 ≤ 1048576)) = in3 c.1 (-1048576) 1048576 := rfl
    have e2 : (decide (c.2.1.1 ≥ -1048576) && decide (c.2.1.1 ≤ 1048576) && decide (c.2.1.2.1 ≥ -1048576) && decide (c.2.1.2.1 ≤ 1048576) && decide (c.2.1.2.2 ≥ -1048576) && decide (c.2.1.2.2 ≤ 1048576)) = in3 c.2.1 (-1048576) 1048576 := rfl
    have e3 : (decide (c.2.2.1.1 ≥ -1048576) && decide (c.2.2.1.1 ≤ 1048576) && decide (c.2.2.1.2.1 ≥ -1048576) && decide (c.2.2.1.2.1 ≤ 1048576) && decide (c.2.2.1.2.2 ≥ -1048576) && decide (c.2.2.1.2.2 ≤ 1048576)) = in3 c.2.2.1 (-1048576) 1048576 := rfl
    rw [e1, e2, e3, tr_ite, tr_ret, tr_ite, tr_ret, tr_ite, tr_ret, tr_ite, tr_ret, tr_ite, tr_ret, tr_ite, tr_ret, tr_ret]
    cases q1 : in3 c.1 (-1048576) 1048576
    · rfl
    cases q2 : in3 c.2.1 (-1048576) 1048576
    · rfl
    cases q3 : in3 c.2.2.1 (-1048576) 1048576
    · rfl
    have e4 : (!true || decide (c.2.2.2.1 < 1) || decide (c.2.2.2.1 > 1048576) || decide (c.2.2.2.2.1 < 0) || decide (c.2.2.2.2.1 > 1048576) || decide (c.2.2.2.2.2 < 1) || decide (c.2.2.2.2.2 > 1048576)) =
        !(true && true && true && (decide (1 ≤ c.2.2.2.1) && decide (c.2.2.2.1 ≤ 1048576)) && (decide (1 ≤ c.2.2.2.2.2) && decide (c.2.2.2.2.2 ≤ 1048576)) && (decide (0 ≤ c.2.2.2.2.1) && decide (c.2.2.2.2.1 ≤ 1048576))) := by
      rw [Bool.eq_iff_iff]; first | (simp; done) | (simp; omega)
    rw [e4]
    cases (true && true && true && (decide (1 ≤ c.2.2.2.1) && decide (c.2.2.2.1 ≤ 1048576)) && (decide (1 ≤ c.2.2.2.2.2) && decide (c.2.2.2.2.2 ≤ 1048576)) && (decide (0 ≤ c.2.2.2.2.1) && decide (c.2.2.2.2.1 ≤ 1048576)))
    · rfl
    simp only [Bool.not_true, Bool.false_eq_true, if_false, Bool.true_eq_false]
    obtain ⟨⟨a1, a2⟩, ⟨a3, a4⟩, a5, a6⟩ := in3_iff.1 q3
    have e5 : (W (W (c.2.1.2.1 - c.1.2.1) * W (c.2.2.1.2.2 - 0)) == W (W (c.2.1.2.2 - c.1.2.2) * W (c.2.2.1.2.1 - 0)) && W (W (c.2.1.2.2 - c.1.2.2) * W (c.2.2.1.1 - 0)) == W (W (c.2.1.1 - c.1.1) * W (c.2.2.1.2.2 - 0)) && W (W (c.2.1.1 - c.1.1) * W (c.2.2.1.2.1 - 0)) == W (W (c.2.1.2.1 - c.1.2.1) * W (c.2.2.1.1 - 0))) = flatB (lessW c.2.1 c.1) c.2.2.1 := by
      rw [W_sub_zero a1 a2, W_sub_zero a3 a4, W_sub_zero a5 a6, Bool.and_assoc]; rfl
    rw [e5]
    have e6 : (decide (x.2.2.2.2.2.2.2 < 1) || decide (x.2.2.2.2.2.2.2 > 8192)) = !(decide (1 ≤ x.2.2.2.2.2.2.2) && decide (x.2.2.2.2.2.2.2 ≤ 8192)) := by
      rw [Bool.eq_iff_iff]; first | (simp; done) | (simp; omega)
    rw [e6]
    cases flatB (lessW c.2.1 c.1) c.2.2.1 <;> cases (x.2.2.2.2.2.2.1 != 1 && x.2.2.2.2.2.2.1 != 2) <;> cases (decide (1 ≤ x.2.2.2.2.2.2.2) && decide (x.2.2.2.2.2.2.2 ≤ 8192)) <;> rfl

def codeOK (w : W3) : Prop := (w.1 = 10 ∨ w.1 = 11) ∧ ¬ (w.2.1 = 0)
theorem matW_ok {m : MatT} {p : Int} {w : W3} (h : matW m p = some w) : codeOK w := by
  unfold matW at h
  split at h
  · cases h; exact ⟨.inl rfl, by simp⟩
  · split at h
    · cases h; exact ⟨.inr rfl, by simp⟩
    · cases h
theorem triW_ok {n : Int} {m : TriT} {p : Int} {w : W3} (h : triW n m p = some w) : codeOK w := by
  unfold triW at h
  split at h
  · cases h; exact ⟨.inr rfl, by simp⟩
  · split at h
    · cases h; exact ⟨.inl rfl, by simp⟩
    · split at h
      · cases h; exact ⟨.inr rfl, by simp⟩
      · cases h
theorem litW_ok {n : Int} {a : List LitT} {m : LitT} {p : Int} {w : W3} (h : litW n a m p = some w) : codeOK w := by
  unfold litW at h
  split at h
  · cases h; exact ⟨.inr rfl, by simp⟩
  · split at h
    · cases h; exact ⟨.inl rfl, by simp⟩
    · cases h
theorem celW_ok {m : W3} {p : Int} {w : W3} (h : celW m p = some w) : codeOK w := by
  unfold celW at h
  split at h
  · cases h; exact ⟨.inl rfl, by simp⟩
  · cases h
theorem camW_ok {x : ScT} {w : W3} (h : camW x = some w) : codeOK w := by
  unfold camW at h
  dsimp only at h
  split at h
  · cases h; exact ⟨.inl rfl, by simp⟩
  · split at h
    · cases h; exact ⟨.inr rfl, by simp⟩
    · split at h
      · cases h; exact ⟨.inr rfl, by simp⟩
      · split at h
        · cases h; exact ⟨.inl rfl, by simp⟩
        · cases h

theorem codeOK.zero {w : W3} (h : codeOK w) : (w.1 == 0 && (w.2.1 == 0 && w.2.2 == 0)) = false := by
  obtain ⟨h1 | h1, _⟩ := h <;> rw [h1] <;> rfl

theorem codeOK.go {w : W3} (h : codeOK w) : (!((mkW (some w)).1 == 0 && ((mkW (some w)).2.1 == 0 && (mkW (some w)).2.2 == 0))) = true := by
  have := h.zero
  show (!(w.1 == 0 && (w.2.1 == 0 && w.2.2 == 0))) = true
  rw [this]; rfl

theorem fM_ok {x : ScT} {k : Nat} {w : W3} (h : fM x k = some w) : codeOK w := by
  unfold fM at h; rw [Option.bind_eq_some_iff] at h; obtain ⟨m, _, h⟩ := h; exact matW_ok h
theorem fT_ok {x : ScT} {k : Nat} {w : W3} (h : fT x k = some w) : codeOK w := by
  unfold fT at h; rw [Option.bind_eq_some_iff] at h; obtain ⟨m, _, h⟩ := h; exact triW_ok h
theorem fL_ok {x : ScT} {k : Nat} {w : W3} (h : fL x k = some w) : codeOK w := by
  unfold fL at h; rw [Option.bind_eq_some_iff] at h; obtain ⟨m, _, h⟩ := h; exact litW_ok h
theorem fC_ok {x : ScT} {k : Nat} {w : W3} (h : fC x k = some w) : codeOK w := by
  unfold fC at h; rw [Option.bind_eq_some_iff] at h; obtain ⟨m, _, h⟩ := h; exact celW_ok h

theorem first_ok {f : Nat → Option W3} {n : Nat} {w : W3} (hf : ∀ {k w}, f k = some w → codeOK w) (h : (firstF f 0 n).map (·.2) = some w) : codeOK w := by
  rw [Option.map_eq_some_iff] at h
  obtain ⟨⟨i, v⟩, h1, rfl⟩ := h
  exact hf (firstF_some h1).2.2

theorem wr_ok {x : ScT} {w : W3} (h : wr x = some w) : codeOK w := by
  unfold wr at h
  split at h
  · cases h; exact ⟨.inl rfl, by simp⟩
  have ho : ∀ {a b : Option W3}, orElse' a b = some w → a = some w ∨ b = some w := by
    intro a b h; cases a with
    | some v => exact .inl h
    | none => exact .inr h
  rcases ho h with h | h
  · exact first_ok fM_ok h
  rcases ho h with h | h
  · exact first_ok fT_ok h
  rcases ho h with h | h
  · rcases ho h with h | h
    · exact first_ok fL_ok h
    · unfold wZ at h
      split at h
      · cases h; exact ⟨.inl rfl, by simp⟩
      · split at h
        · cases h; exact ⟨.inr rfl, by simp⟩
        · exact first_ok fC_ok h
  · exact camW_ok h

theorem rmats (x : ScT) (hx : x.1.length ≤ 900) : ref22_Check.l0 (x, (0, 0, 0), 0, ()) =
    some (match firstF (fM x) 0 x.1.length with | some (i, w) => (.ret, x, w, (i : Int), ()) | none => (.exit 0, x, (0, 0, 0), (x.1.length : Int), ())) :=
  iter_first (t := ref22_Check.t0) (fun k => (x, (0, 0, 0), (k : Int), ())) (fM x) (fun k w => (x, w, (k : Int), ())) (e := .exit 0) (z := (x, (0, 0, 0), (x.1.length : Int), ())) (by simp) x.1.length 0 rounds
    (fun k _ hk hf => by
      have hlt : k < x.1.length := by omega
      unfold fM at hf
      rw [List.getElem?_eq_getElem hlt, Option.bind_some] at hf
      unfold ref22_Check.t0
      dsimp only
      rw [tr_ite, decide_eq_true (by omega), if_pos rfl, tr_opt, lget_nat x.1 hlt, Option.bind_some, nn (by omega), tr_opt, rmat_eq, hf, Option.bind_some, tr_ite, if_neg (by simp [mkW]), tr_ret])
    (fun k w _ hk hf => by
      have hlt : k < x.1.length := by omega
      have hok := fM_ok hf
      unfold fM at hf
      rw [List.getElem?_eq_getElem hlt, Option.bind_some] at hf
      unfold ref22_Check.t0
      dsimp only
      rw [tr_ite, decide_eq_true (by omega), if_pos rfl, tr_opt, lget_nat x.1 hlt, Option.bind_some, nn (by omega), tr_opt, rmat_eq, hf, Option.bind_some, tr_ite, if_pos (hok.go)]; rfl)
    (by
      rw [Nat.zero_add]
      unfold ref22_Check.t0
      dsimp only
      rw [tr_ite, decide_eq_false (by omega), if_neg (by simp), tr_ret]) (rounds_gt (by omega))

theorem rtris (x : ScT) (hx : x.2.1.length ≤ 900) : ref22_Check.l2 (x, (0, 0, 0), 0, ()) =
    some (match firstF (fT x) 0 x.2.1.length with | some (i, w) => (.ret, x, w, (i : Int), ()) | none => (.exit 2, x, (0, 0, 0), (x.2.1.length : Int), ())) :=
  iter_first (t := ref22_Check.t2) (fun k => (x, (0, 0, 0), (k : Int), ())) (fT x) (fun k w => (x, w, (k : Int), ())) (e := .exit 2) (z := (x, (0, 0, 0), (x.2.1.length : Int), ())) (by simp) x.2.1.length 0 rounds
    (fun k _ hk hf => by
      have hlt : k < x.2.1.length := by omega
      unfold fT at hf
      rw [List.getElem?_eq_getElem hlt, Option.bind_some] at hf
      unfold ref22_Check.t2
      dsimp only
      rw [tr_ite, decide_eq_true (by omega), if_pos rfl, tr_opt, lget_nat x.2.1 hlt, Option.bind_some, nn (by omega), tr_opt, rtri_eq, hf, Option.bind_some, tr_ite, if_neg (by simp [mkW]), tr_ret])
    (fun k w _ hk hf => by
      have hlt : k < x.2.1.length := by omega
      have hok := fT_ok hf
      unfold fT at hf
      rw [List.getElem?_eq_getElem hlt, Option.bind_some] at hf
      unfold ref22_Check.t2
      dsimp only
      rw [tr_ite, decide_eq_true (by omega), if_pos rfl, tr_opt, lget_nat x.2.1 hlt, Option.bind_some, nn (by omega), tr_opt, rtri_eq, hf, Option.bind_some, tr_ite, if_pos (hok.go)]; rfl)
    (by
      rw [Nat.zero_add]
      unfold ref22_Check.t2
      dsimp only
      rw [tr_ite, decide_eq_false (by omega), if_neg (by simp), tr_ret]) (rounds_gt (by omega))

theorem rlits (x : ScT) (hx : x.2.2.1.length ≤ 900) : ref22_Check.l4 (x, (0, 0, 0), 0, ()) =
    some (match firstF (fL x) 0 x.2.2.1.length with | some (i, w) => (.ret, x, w, (i : Int), ()) | none => (.exit 4, x, (0, 0, 0), (x.2.2.1.length : Int), ())) :=
  iter_first (t := ref22_Check.t4) (fun k => (x, (0, 0, 0), (k : Int), ())) (fL x) (fun k w => (x, w, (k : Int), ())) (e := .exit 4) (z := (x, (0, 0, 0), (x.2.2.1.length : Int), ())) (by simp) x.2.2.1.length 0 rounds
    (fun k _ hk hf => by
      have hlt : k < x.2.2.1.length := by omega
      unfold fL at hf
      rw [List.getElem?_eq_getElem hlt, Option.bind_some] at hf
      unfold ref22_Check.t4
      dsimp only
      rw [tr_ite, decide_eq_true (by omega), if_pos rfl, tr_opt, rlit_eq _ _ _ hlt hx, hf, Option.bind_some, tr_ite, if_neg (by simp [mkW]), tr_ret, W_succ (by omega)])
    (fun k w _ hk hf => by
      have hlt : k < x.2.2.1.length := by omega
      have hok := fL_ok hf
      unfold fL at hf
      rw [List.getElem?_eq_getElem hlt, Option.bind_some] at hf
      unfold ref22_Check.t4
      dsimp only
      rw [tr_ite, decide_eq_true (by omega), if_pos rfl, tr_opt, rlit_eq _ _ _ hlt hx, hf, Option.bind_some, tr_ite, if_pos (hok.go)]; rfl)
    (by
      rw [Nat.zero_add]
      unfold ref22_Check.t4
      dsimp only
      rw [tr_ite, decide_eq_false (by omega), if_neg (by simp), tr_ret]) (rounds_gt (by omega))

theorem RCheck_eq (x : ScT) (h : lightB x) : ref22_Check x = some (mkW (wr x)) := by
  obtain ⟨h1, h2, h3, h4⟩ := h
  unfold ref22_Check ref22_Check.t wr
  rw [tr_ite, tr_ret]
  have hbb : (decide ((x.1.length : Int) > 32) || decide ((x.2.1.length : Int) > 512) || decide ((x.2.2.1.length : Int) > 512) || decide (x.2.2.2.1 > 16)) = bigB x := rfl
  rw [hbb]
  by_cases hbig : bigB x = true
  · rw [if_pos hbig, if_pos hbig]; rfl
  rw [if_neg hbig, if_neg hbig, tr_opt, rmats x h1, Option.bind_some]
  unfold wM
  cases e1 : firstF (fM x) 0 x.1.length with
  | some p => rfl
  | none =>
    dsimp only
    rw [tr_ite, if_pos (by rfl), tr_opt, rtris x h2, Option.bind_some]
    unfold wT
    cases e2 : firstF (fT x) 0 x.2.1.length with
    | some p => rfl
    | none =>
      dsimp only
      rw [tr_ite, if_pos (by rfl), tr_opt, rlits x h3, Option.bind_some]
      unfold wL
      cases e3 : firstF (fL x) 0 x.2.2.1.length with
      | some p => rfl
      | none =>
        dsimp only
        rw [tr_ite, if_pos (by rfl), tr_opt, rest_eq x h4, Option.bind_some, tr_ret]
        rfl

end Go.Proofs.Pen

namespace Go.Proofs.Pen
open Go Go.Proofs
def ref22_Same.L0 : List (Nat × Lay) := [(2, .box TScn), (3, .box TScn), (4, .val .bool), (5, .val TI)]
noncomputable def ref22_Same.t0 (x : ((List ((Int × Int × Int) × (Int × Int × Int) × Int)) × (List ((Int × Int × Int) × (Int × Int × Int) × (Int × Int × Int) × Int)) × (List (Int × Int × Int × Int)) × Int × (List (Int × Int × Int)) × ((Int × Int × Int) × (Int × Int × Int) × (Int × Int × Int) × Int × Int × Int) × Int × Int) × ((List ((Int × Int × Int) × (Int × Int × Int) × Int)) × (List ((Int × Int × Int) × (Int × Int × Int) × (Int × Int × Int) × Int)) × (List (Int × Int × Int × Int)) × Int × (List (Int × Int × Int)) × ((Int × Int × Int) × (Int × Int × Int) × (Int × Int × Int) × Int × Int × Int) × Int × Int) × Bool × Int × Unit) : T (Ex × ((List ((Int × Int × Int) × (Int × Int × Int) × Int)) × (List ((Int × Int × Int) × (Int × Int × Int) × (Int × Int × Int) × Int)) × (List (Int × Int × Int × Int)) × Int × (List (Int × Int × Int)) × ((Int × Int × Int) × (Int × Int × Int) × (Int × Int × Int) × Int × Int × Int) × Int × Int) × ((List ((Int × Int × Int) × (Int × Int × Int) × Int)) × (List ((Int × Int × Int) × (Int × Int × Int) × (Int × Int × Int) × Int)) × (List (Int × Int × Int × Int)) × Int × (List (Int × Int × Int)) × ((Int × Int × Int) × (Int × Int × Int) × (Int × Int × Int) × Int × Int × Int) × Int × Int) × Bool × Int × Unit) := T.ite (decide (x.2.2.2.1 < (↑(List.length x.1.1) : Int))) (T.opt (lget x.1.1 x.2.2.2.1) fun y => T.opt (lget x.2.1.1 x.2.2.2.1) fun y_1 => T.ite (!(y.1.1 == y_1.fst.fst && (y.1.2.1 == y_1.fst.snd.fst && y.1.2.2 == y_1.fst.snd.snd) && (y.2.1.1 == y_1.snd.fst.fst && (y.2.1.2.1 == y_1.snd.fst.snd.fst && y.2.1.2.2 == y_1.snd.fst.snd.snd) && y.2.2 == y_1.snd.snd))) (T.ret (Ex.ret, x.1, x.2.1, false, x.2.2.2.1, ())) (T.ret (Ex.normal, x.1, x.2.1, x.2.2.1, W (x.2.2.2.1 + (1 : Int)), ()))) (T.ret (Ex.exit (0 : Nat), x.1, x.2.1, x.2.2.1, x.2.2.2.1, ()))
noncomputable def ref22_Same.l0 (x : ((List ((Int × Int × Int) × (Int × Int × Int) × Int)) × (List ((Int × Int × Int) × (Int × Int × Int) × (Int × Int × Int) × Int)) × (List (Int × Int × Int × Int)) × Int × (List (Int × Int × Int)) × ((Int × Int × Int) × (Int × Int × Int) × (Int × Int × Int) × Int × Int × Int) × Int × Int) × ((List ((Int × Int × Int) × (Int × Int × Int) × Int)) × (List ((Int × Int × Int) × (Int × Int × Int) × (Int × Int × Int) × Int)) × (List (Int × Int × Int × Int)) × Int × (List (Int × Int × Int)) × ((Int × Int × Int) × (Int × Int × Int) × (Int × Int × Int) × Int × Int × Int) × Int × Int) × Bool × Int × Unit) : Option (Ex × ((List ((Int × Int × Int) × (Int × Int × Int) × Int)) × (List ((Int × Int × Int) × (Int × Int × Int) × (Int × Int × Int) × Int)) × (List (Int × Int × Int × Int)) × Int × (List (Int × Int × Int)) × ((Int × Int × Int) × (Int × Int × Int) × (Int × Int × Int) × Int × Int × Int) × Int × Int) × ((List ((Int × Int × Int) × (Int × Int × Int) × Int)) × (List ((Int × Int × Int) × (Int × Int × Int) × (Int × Int × Int) × Int)) × (List (Int × Int × Int × Int)) × Int × (List (Int × Int × Int)) × ((Int × Int × Int) × (Int × Int × Int) × (Int × Int × Int) × Int × Int × Int) × Int × Int) × Bool × Int × Unit) := (iterT ref22_Same.t0 rounds x).run
theorem ref22_Same.k0 : bodies 0 (lp Tryz.f13 []) = [.loop (loopIn 0 (lp Tryz.f13 []))] ∧ WP Tryz.prog 0 (.block 0 (.loop (loopIn 0 (lp Tryz.f13 [])))) (loopS ref22_Same.L0 143 0 [.exit 0, .ret] ref22_Same.l0) :=
  loop_tree (L := ref22_Same.L0) (F := ({ quiet := Xs, deep := noDeep } : Fns)) (D := D0) (tab := []) (t := ref22_Same.t0) mixed Xok (deep_none _) (fun _ => rfl) (by kernel_rfl) (by kernel_rfl) trivial (fun x => by kernel_rfl)
def ref22_Same.L2 : List (Nat × Lay) := [(2, .box TScn), (3, .box TScn), (4, .val .bool), (6, .val TI)]
noncomputable def ref22_Same.t2 (x : ((List ((Int × Int × Int) × (Int × Int × Int) × Int)) × (List ((Int × Int × Int) × (Int × Int × Int) × (Int × Int × Int) × Int)) × (List (Int × Int × Int × Int)) × Int × (List (Int × Int × Int)) × ((Int × Int × Int) × (Int × Int × Int) × (Int × Int × Int) × Int × Int × Int) × Int × Int) × ((List ((Int × Int × Int) × (Int × Int × Int) × Int)) × (List ((Int × Int × Int) × (Int × Int × Int) × (Int × Int × Int) × Int)) × (List (Int × Int × Int × Int)) × Int × (List (Int × Int × Int)) × ((Int × Int × Int) × (Int × Int × Int) × (Int × Int × Int) × Int × Int × Int) × Int × Int) × Bool × Int × Unit) : T (Ex × ((List ((Int × Int × Int) × (Int × Int × Int) × Int)) × (List ((Int × Int × Int) × (Int × Int × Int) × (Int × Int × Int) × Int)) × (List (Int × Int × Int × Int)) × Int × (List (Int × Int × Int)) × ((Int × Int × Int) × (Int × Int × Int) × (Int × Int × Int) × Int × Int × Int) × Int × Int) × ((List ((Int × Int × Int) × (Int × Int × Int) × Int)) × (List ((Int × Int × Int) × (Int × Int × Int) × (Int × Int × Int) × Int)) × (List (Int × Int × Int × Int)) × Int × (List (Int × Int × Int)) × ((Int × Int × Int) × (Int × Int × Int) × (Int × Int × Int) × Int × Int × Int) × Int × Int) × Bool × Int × Unit) := T.ite (decide (x.2.2.2.1 < (↑(List.length x.1.2.1) : Int))) (T.opt (lget x.1.2.1 x.2.2.2.1) fun y => T.opt (lget x.2.1.2.1 x.2.2.2.1) fun y_1 => T.ite (!(y.1.1 == y_1.fst.fst && (y.1.2.1 == y_1.fst.snd.fst && y.1.2.2 == y_1.fst.snd.snd) && (y.2.1.1 == y_1.snd.fst.fst && (y.2.1.2.1 == y_1.snd.fst.snd.fst && y.2.1.2.2 == y_1.snd.fst.snd.snd) && (y.2.2.1.1 == y_1.snd.snd.fst.fst && (y.2.2.1.2.1 == y_1.snd.snd.fst.snd.fst && y.2.2.1.2.2 == y_1.snd.snd.fst.snd.snd) && y.2.2.2 == y_1.snd.snd.snd)))) (T.ret (Ex.ret, x.1, x.2.1, false, x.2.2.2.1, ())) (T.ret (Ex.normal, x.1, x.2.1, x.2.2.1, W (x.2.2.2.1 + (1 : Int)), ()))) (T.ret (Ex.exit (2 : Nat), x.1, x.2.1, x.2.2.1, x.2.2.2.1, ()))
noncomputable def ref22_Same.l2 (x : ((List ((Int × Int × Int) × (Int × Int × Int) × Int)) × (List ((Int × Int × Int) × (Int × Int × Int) × (Int × Int × Int) × Int)) × (List (Int × Int × Int × Int)) × Int × (List (Int × Int × Int)) × ((Int × Int × Int) × (Int × Int × Int) × (Int × Int × Int) × Int × Int × Int) × Int × Int) × ((List ((Int × Int × Int) × (Int × Int × Int) × Int)) × (List ((Int × Int × Int) × (Int × Int × Int) × (Int × Int × Int) × Int)) × (List (Int × Int × Int × Int)) × Int × (List (Int × Int × Int)) × ((Int × Int × Int) × (Int × Int × Int) × (Int × Int × Int) × Int × Int × Int) × Int × Int) × Bool × Int × Unit) : Option (Ex × ((List ((Int × Int × Int) × (Int × Int × Int) × Int)) × (List ((Int × Int × Int) × (Int × Int × Int) × (Int × Int × Int) × Int)) × (List (Int × Int × Int × Int)) × Int × (List (Int × Int × Int)) × ((Int × Int × Int) × (Int × Int × Int) × (Int × Int × Int) × Int × Int × Int) × Int × Int) × ((List ((Int × Int × Int) × (Int × Int × Int) × Int)) × (List ((Int × Int × Int) × (Int × Int × Int) × (Int × Int × Int) × Int)) × (List (Int × Int × Int × Int)) × Int × (List (Int × Int × Int)) × ((Int × Int × Int) × (Int × Int × Int) × (Int × Int × Int) × Int × Int × Int) × Int × Int) × Bool × Int × Unit) := (iterT ref22_Same.t2 rounds x).run
theorem ref22_Same.k2 : bodies 2 (lp Tryz.f13 []) = [.loop (loopIn 2 (lp Tryz.f13 []))] ∧ WP Tryz.prog 0 (.block 2 (.loop (loopIn 2 (lp Tryz.f13 [])))) (loopS ref22_Same.L2 143 2 [.exit 2, .ret] ref22_Same.l2) :=
  loop_tree (L := ref22_Same.L2) (F := ({ quiet := Xs, deep := noDeep } : Fns)) (D := D0) (tab := []) (t := ref22_Same.t2) mixed Xok (deep_none _) (fun _ => rfl) (by kernel_rfl) (by kernel_rfl) trivial (fun x => by kernel_rfl)
def ref22_Same.L4 : List (Nat × Lay) := [(2, .box TScn), (3, .box TScn), (4, .val .bool), (7, .val TI)]
noncomputable def ref22_Same.t4 (x : ((List ((Int × Int × Int) × (Int × Int × Int) × Int)) × (List ((Int × Int × Int) × (Int × Int × Int) × (Int × Int × Int) × Int)) × (List (Int × Int × Int × Int)) × Int × (List (Int × Int × Int)) × ((Int × Int × Int) × (Int × Int × Int) × (Int × Int × Int) × Int × Int × Int) × Int × Int) × ((List ((Int × Int × Int) × (Int × Int × Int) × Int)) × (List ((Int × Int × Int) × (Int × Int × Int) × (Int × Int × Int) × Int)) × (List (Int × Int × Int × Int)) × Int × (List (Int × Int × Int)) × ((Int × Int × Int) × (Int × Int × Int) × (Int × Int × Int) × Int × Int × Int) × Int × Int) × Bool × Int × Unit) : T (Ex × ((List ((Int × Int × Int) × (Int × Int × Int) × Int)) × (List ((Int × Int × Int) × (Int × Int × Int) × (Int × Int × Int) × Int)) × (List (Int × Int × Int × Int)) × Int × (List (Int × Int × Int)) × ((Int × Int × Int) × (Int × Int × Int) × (Int × Int × Int) × Int × Int × Int) × Int × Int) × ((List ((Int × Int × Int) × (Int × Int × Int) × Int)) × (List ((Int × Int × Int) × (Int × Int × Int) × (Int × Int × Int) × Int)) × (List (Int × Int × Int × Int)) × Int × (List (Int × Int × Int)) × ((Int × Int × Int) × (Int × Int × Int) × (Int × Int × Int) × Int × Int × Int) × Int × Int) × Bool × Int × Unit) := T.ite (decide (x.2.2.2.1 < (↑(List.length x.1.2.2.1) : Int))) (T.opt (lget x.1.2.2.1 x.2.2.2.1) fun y => T.opt (lget x.2.1.2.2.1 x.2.2.2.1) fun y_1 => T.ite (!(y.1 == y_1.fst && (y.2.1 == y_1.snd.fst && (y.2.2.1 == y_1.snd.snd.fst && y.2.2.2 == y_1.snd.snd.snd)))) (T.ret (Ex.ret, x.1, x.2.1, false, x.2.2.2.1, ())) (T.ret (Ex.normal, x.1, x.2.1, x.2.2.1, W (x.2.2.2.1 + (1 : Int)), ()))) (T.ret (Ex.exit (4 : Nat), x.1, x.2.1, x.2.2.1, x.2.2.2.1, ()))
noncomputable def ref22_Same.l4 (x : ((List ((Int × Int × Int) × (Int × Int × Int) × Int)) × (List ((Int × Int × Int) × (Int × Int × Int) × (Int × Int × Int) × Int)) × (List (Int × Int × Int × Int)) × Int × (List (Int × Int × Int)) × ((Int × Int × Int) × (Int × Int × Int) × (Int × Int × Int) × Int × Int × Int) × Int × Int) × ((List ((Int × Int × Int) × (Int × Int × Int) × Int)) × (List ((Int × Int × Int) × (Int × Int × Int) × (Int × Int × Int) × Int)) × (List (Int × Int × Int × Int)) × Int × (List (Int × Int × Int)) × ((Int × Int × Int) × (Int × Int × Int) × (Int × Int × Int) × Int × Int × Int) × Int × Int) × Bool × Int × Unit) : Option (Ex × ((List ((Int × Int × Int) × (Int × Int × Int) × Int)) × (List ((Int × Int × Int) × (Int × Int × Int) × (Int × Int × Int) × Int)) × (List (Int × Int × Int × Int)) × Int × (List (Int × Int × Int)) × ((Int × Int × Int) × (Int × Int × Int) × (Int × Int × Int) × Int × Int × Int) × Int × Int) × ((List ((Int × Int × Int) × (Int × Int × Int) × Int)) × (List ((Int × Int × Int) × (Int × Int × Int) × (Int × Int × Int) × Int)) × (List (Int × Int × Int × Int)) × Int × (List (Int × Int × Int)) × ((Int × Int × Int) × (Int × Int × Int) × (Int × Int × Int) × Int × Int × Int) × Int × Int) × Bool × Int × Unit) := (iterT ref22_Same.t4 rounds x).run
theorem ref22_Same.k4 : bodies 4 (lp Tryz.f13 []) = [.loop (loopIn 4 (lp Tryz.f13 []))] ∧ WP Tryz.prog 0 (.block 4 (.loop (loopIn 4 (lp Tryz.f13 [])))) (loopS ref22_Same.L4 143 4 [.exit 4, .ret] ref22_Same.l4) :=
  loop_tree (L := ref22_Same.L4) (F := ({ quiet := Xs, deep := noDeep } : Fns)) (D := D0) (tab := []) (t := ref22_Same.t4) mixed Xok (deep_none _) (fun _ => rfl) (by kernel_rfl) (by kernel_rfl) trivial (fun x => by kernel_rfl)
def ref22_Same.L6 : List (Nat × Lay) := [(2, .box TScn), (3, .box TScn), (4, .val .bool), (8, .val TI)]
noncomputable def ref22_Same.t6 (x : ((List ((Int × Int × Int) × (Int × Int × Int) × Int)) × (List ((Int × Int × Int) × (Int × Int × Int) × (Int × Int × Int) × Int)) × (List (Int × Int × Int × Int)) × Int × (List (Int × Int × Int)) × ((Int × Int × Int) × (Int × Int × Int) × (Int × Int × Int) × Int × Int × Int) × Int × Int) × ((List ((Int × Int × Int) × (Int × Int × Int) × Int)) × (List ((Int × Int × Int) × (Int × Int × Int) × (Int × Int × Int) × Int)) × (List (Int × Int × Int × Int)) × Int × (List (Int × Int × Int)) × ((Int × Int × Int) × (Int × Int × Int) × (Int × Int × Int) × Int × Int × Int) × Int × Int) × Bool × Int × Unit) : T (Ex × ((List ((Int × Int × Int) × (Int × Int × Int) × Int)) × (List ((Int × Int × Int) × (Int × Int × Int) × (Int × Int × Int) × Int)) × (List (Int × Int × Int × Int)) × Int × (List (Int × Int × Int)) × ((Int × Int × Int) × (Int × Int × Int) × (Int × Int × Int) × Int × Int × Int) × Int × Int) × ((List ((Int × Int × Int) × (Int × Int × Int) × Int)) × (List ((Int × Int × Int) × (Int × Int × Int) × (Int × Int × Int) × Int)) × (List (Int × Int × Int × Int)) × Int × (List (Int × Int × Int)) × ((Int × Int × Int) × (Int × Int × Int) × (Int × Int × Int) × Int × Int × Int) × Int × Int) × Bool × Int × Unit) := T.ite (decide (x.2.2.2.1 < (↑(List.length x.1.2.2.2.2.1) : Int))) (T.opt (lget x.1.2.2.2.2.1 x.2.2.2.1) fun y => T.opt (lget x.2.1.2.2.2.2.1 x.2.2.2.1) fun y_1 => T.ite (!(y.1 == y_1.fst && (y.2.1 == y_1.snd.fst && y.2.2 == y_1.snd.snd))) (T.ret (Ex.ret, x.1, x.2.1, false, x.2.2.2.1, ())) (T.ret (Ex.normal, x.1, x.2.1, x.2.2.1, W (x.2.2.2.1 + (1 : Int)), ()))) (T.ret (Ex.exit (6 : Nat), x.1, x.2.1, x.2.2.1, x.2.2.2.1, ()))
noncomputable def ref22_Same.l6 (x : ((List ((Int × Int × Int) × (Int × Int × Int) × Int)) × (List ((Int × Int × Int) × (Int × Int × Int) × (Int × Int × Int) × Int)) × (List (Int × Int × Int × Int)) × Int × (List (Int × Int × Int)) × ((Int × Int × Int) × (Int × Int × Int) × (Int × Int × Int) × Int × Int × Int) × Int × Int) × ((List ((Int × Int × Int) × (Int × Int × Int) × Int)) × (List ((Int × Int × Int) × (Int × Int × Int) × (Int × Int × Int) × Int)) × (List (Int × Int × Int × Int)) × Int × (List (Int × Int × Int)) × ((Int × Int × Int) × (Int × Int × Int) × (Int × Int × Int) × Int × Int × Int) × Int × Int) × Bool × Int × Unit) : Option (Ex × ((List ((Int × Int × Int) × (Int × Int × Int) × Int)) × (List ((Int × Int × Int) × (Int × Int × Int) × (Int × Int × Int) × Int)) × (List (Int × Int × Int × Int)) × Int × (List (Int × Int × Int)) × ((Int × Int × Int) × (Int × Int × Int) × (Int × Int × Int) × Int × Int × Int) × Int × Int) × ((List ((Int × Int × Int) × (Int × Int × Int) × Int)) × (List ((Int × Int × Int) × (Int × Int × Int) × (Int × Int × Int) × Int)) × (List (Int × Int × Int × Int)) × Int × (List (Int × Int × Int)) × ((Int × Int × Int) × (Int × Int × Int) × (Int × Int × Int) × Int × Int × Int) × Int × Int) × Bool × Int × Unit) := (iterT ref22_Same.t6 rounds x).run
theorem ref22_Same.k6 : bodies 6 (lp Tryz.f13 []) = [.loop (loopIn 6 (lp Tryz.f13 []))] ∧ WP Tryz.prog 0 (.block 6 (.loop (loopIn 6 (lp Tryz.f13 [])))) (loopS ref22_Same.L6 143 6 [.exit 6, .ret] ref22_Same.l6) :=
  loop_tree (L := ref22_Same.L6) (F := ({ quiet := Xs, deep := noDeep } : Fns)) (D := D0) (tab := []) (t := ref22_Same.t6) mixed Xok (deep_none _) (fun _ => rfl) (by kernel_rfl) (by kernel_rfl) trivial (fun x => by kernel_rfl)
noncomputable def ref22_Same.t (x : ((List ((Int × Int × Int) × (Int × Int × Int) × Int)) × (List ((Int × Int × Int) × (Int × Int × Int) × (Int × Int × Int) × Int)) × (List (Int × Int × Int × Int)) × Int × (List (Int × Int × Int)) × ((Int × Int × Int) × (Int × Int × Int) × (Int × Int × Int) × Int × Int × Int) × Int × Int) × ((List ((Int × Int × Int) × (Int × Int × Int) × Int)) × (List ((Int × Int × Int) × (Int × Int × Int) × (Int × Int × Int) × Int)) × (List (Int × Int × Int × Int)) × Int × (List (Int × Int × Int)) × ((Int × Int × Int) × (Int × Int × Int) × (Int × Int × Int) × Int × Int × Int) × Int × Int)) : T (Bool) := T.ite ((↑(List.length x.1.1) : Int) != (↑(List.length x.2.1) : Int) || (↑(List.length x.1.2.1) : Int) != (↑(List.length x.2.2.1) : Int) || (↑(List.length x.1.2.2.1) : Int) != (↑(List.length x.2.2.2.1) : Int) || (↑(List.length x.1.2.2.2.2.1) : Int) != (↑(List.length x.2.2.2.2.2.1) : Int) || x.1.2.2.2.1 != x.2.2.2.2.1 || !(x.1.2.2.2.2.2.1.1.1 == x.2.2.2.2.2.2.1.1.1 && (x.1.2.2.2.2.2.1.1.2.1 == x.2.2.2.2.2.2.1.1.2.1 && x.1.2.2.2.2.2.1.1.2.2 == x.2.2.2.2.2.2.1.1.2.2) && (x.1.2.2.2.2.2.1.2.1.1 == x.2.2.2.2.2.2.1.2.1.1 && (x.1.2.2.2.2.2.1.2.1.2.1 == x.2.2.2.2.2.2.1.2.1.2.1 && x.1.2.2.2.2.2.1.2.1.2.2 == x.2.2.2.2.2.2.1.2.1.2.2) && (x.1.2.2.2.2.2.1.2.2.1.1 == x.2.2.2.2.2.2.1.2.2.1.1 && (x.1.2.2.2.2.2.1.2.2.1.2.1 == x.2.2.2.2.2.2.1.2.2.1.2.1 && x.1.2.2.2.2.2.1.2.2.1.2.2 == x.2.2.2.2.2.2.1.2.2.1.2.2) && (x.1.2.2.2.2.2.1.2.2.2.1 == x.2.2.2.2.2.2.1.2.2.2.1 && (x.1.2.2.2.2.2.1.2.2.2.2.1 == x.2.2.2.2.2.2.1.2.2.2.2.1 && x.1.2.2.2.2.2.1.2.2.2.2.2 == x.2.2.2.2.2.2.1.2.2.2.2.2))))) || x.1.2.2.2.2.2.2.1 != x.2.2.2.2.2.2.2.1 || x.1.2.2.2.2.2.2.2 != x.2.2.2.2.2.2.2.2) (T.ret false) (T.opt (ref22_Same.l0 (x.1, x.2, false, (0 : Int), ())) fun y => T.ite (exEq y.1 (Ex.exit (0 : Nat))) (T.opt (ref22_Same.l2 (y.2.1, y.2.2.1, y.2.2.2.1, (0 : Int), ())) fun y => T.ite (exEq y.1 (Ex.exit (2 : Nat))) (T.opt (ref22_Same.l4 (y.2.1, y.2.2.1, y.2.2.2.1, (0 : Int), ())) fun y => T.ite (exEq y.1 (Ex.exit (4 : Nat))) (T.opt (ref22_Same.l6 (y.2.1, y.2.2.1, y.2.2.2.1, (0 : Int), ())) fun y => T.ite (exEq y.1 (Ex.exit (6 : Nat))) (T.ret true) (T.ite (exEq y.1 Ex.ret) (T.ret y.2.2.2.1) T.fail)) (T.ite (exEq y.1 Ex.ret) (T.ret y.2.2.2.1) T.fail)) (T.ite (exEq y.1 Ex.ret) (T.ret y.2.2.2.1) T.fail)) (T.ite (exEq y.1 Ex.ret) (T.ret y.2.2.2.1) T.fail))
noncomputable def ref22_Same (x : ((List ((Int × Int × Int) × (Int × Int × Int) × Int)) × (List ((Int × Int × Int) × (Int × Int × Int) × (Int × Int × Int) × Int)) × (List (Int × Int × Int × Int)) × Int × (List (Int × Int × Int)) × ((Int × Int × Int) × (Int × Int × Int) × (Int × Int × Int) × Int × Int × Int) × Int × Int) × ((List ((Int × Int × Int) × (Int × Int × Int) × Int)) × (List ((Int × Int × Int) × (Int × Int × Int) × (Int × Int × Int) × Int)) × (List (Int × Int × Int × Int)) × Int × (List (Int × Int × Int)) × ((Int × Int × Int) × (Int × Int × Int) × (Int × Int × Int) × Int × Int × Int) × Int × Int)) : Option (Bool) := (ref22_Same.t x).run
noncomputable def ref22_Same.q : List AV → T AV := entry [TScn, TScn] (outR [.bool]) fun x => .opt (ref22_Same x) .ret
theorem ref22_Same.ok : FnOK Tryz.prog 13 ref22_Same.q :=
  entry_call (ps := [TScn, TScn]) (rs := [.bool]) (F := ({ quiet := Xs, deep := noDeep } : Fns)) (D := D0) (S := tabS [(0, loopS ref22_Same.L0 143 0 [.exit 0, .ret] ref22_Same.l0), (2, loopS ref22_Same.L2 143 2 [.exit 2, .ret] ref22_Same.l2), (4, loopS ref22_Same.L4 143 4 [.exit 4, .ret] ref22_Same.l4), (6, loopS ref22_Same.L6 143 6 [.exit 6, .ret] ref22_Same.l6)]) (t := ref22_Same.t) mixed Xok (deep_none _) Tryz.func13 (by kernel_rfl) (sok_fn ⟨ref22_Same.k0, ref22_Same.k2, ref22_Same.k4, ref22_Same.k6, trivial⟩) (by kernel_rfl) (fun x => by kernel_rfl)
end Go.Proofs.Pen

namespace Go.Proofs.Pen
open Go Go.Proofs

def matG (m : MatT) : Prop := matW m 0 = none
def triG (n : Int) (t : TriT) : Prop := 0 ≤ t.2.2.2 ∧ t.2.2.2 < n ∧ (in3 t.1 (-1048576) 1048576 && in3 t.2.1 (-1048576) 1048576 && in3 t.2.2.1 (-1048576) 1048576) = true ∧ flatB (lessW t.2.1 t.1) (lessW t.2.2.1 t.1) = false
def litG (n : Int) (l : LitT) : Prop := 0 ≤ l.1 ∧ l.1 < n ∧ in3 l.2 0 67108863 = true
def okS (x : ScT) : Prop := bigB x = false ∧ (∀ m ∈ x.1, matG m) ∧ (∀ t ∈ x.2.1, triG x.1.length t) ∧ (∀ l ∈ x.2.2.1, litG x.2.1.length l) ∧ (x.2.2.1.Pairwise fun a b => a.1 ≠ b.1) ∧
  (0 ≤ x.2.2.2.1 ∧ (x.2.2.2.2.1.length : Int) = 8 * x.2.2.2.1) ∧ (∀ c ∈ x.2.2.2.2.1, in3 c 0 67108863 = true) ∧ camW x = none

theorem firstF_none_iff {f : Nat → Option W3} {n : Nat} : (firstF f 0 n).map (·.2) = none ↔ ∀ i, i < n → f i = none := by
  constructor
  · intro h i hi
    have h : firstF f 0 n = none := by simpa using h
    exact firstF_none h i (Nat.zero_le _) (by omega)
  · intro h
    cases hf : firstF f 0 n with
    | none => rfl
    | some p =>
      obtain ⟨i, w⟩ := p
      obtain ⟨_, h2, h3⟩ := firstF_some hf
      rw [h i (by omega)] at h3
      cases h3

theorem matW_none {m : MatT} {p : Int} : matW m p = none ↔ matG m := by
  unfold matG matW
  split
  · simp
  · split <;> simp

theorem triW_none {n : Int} {t : TriT} {p : Int} : triW n t p = none ↔ triG n t := by
  unfold triG triW
  by_cases h : 0 ≤ t.2.2.2 ∧ t.2.2.2 < n
  · rw [if_neg (by simp; omega)]
    generalize (in3 t.1 (-1048576) 1048576 && in3 t.2.1 (-1048576) 1048576 && in3 t.2.2.1 (-1048576) 1048576) = q1
    generalize flatB (lessW t.2.1 t.1) (lessW t.2.2.1 t.1) = q2
    cases q1 <;> cases q2 <;> simp [h.1, h.2]
  · rw [if_pos (by simp; omega)]
    constructor
    · intro hh; cases hh
    · rintro ⟨h1, h2, _⟩; exact absurd ⟨h1, h2⟩ h

theorem litW_none {n : Int} {a : List LitT} {t : LitT} {p : Int} : litW n a t p = none ↔ litG n t ∧ ∀ y ∈ a, y.1 ≠ t.1 := by
  unfold litG litW
  by_cases h : (decide (t.1 < 0) || decide (t.1 ≥ n) || a.any fun y => t.1 == y.1) = true
  · rw [if_pos h]
    constructor
    · intro hh; cases hh
    · rintro ⟨⟨h1, h2, _⟩, h3⟩
      simp only [Bool.or_eq_true, decide_eq_true_eq, List.any_eq_true, beq_iff_eq] at h
      rcases h with (h | h) | ⟨y, hy, h⟩
      · omega
      · omega
      · exact absurd h.symm (h3 y hy)
  · rw [if_neg h]
    simp only [Bool.or_eq_true, decide_eq_true_eq, List.any_eq_true, beq_iff_eq, not_or, not_exists, not_and] at h
    obtain ⟨⟨h1, h2⟩, h3⟩ := h
    split
    · rename_i h4
      constructor
      · intro hh; cases hh
      · rintro ⟨⟨_, _, h5⟩, _⟩; rw [h4] at h5; cases h5
    · rename_i h4
      constructor
      · intro _; exact ⟨⟨by omega, by omega, nf h4⟩, fun y hy hh => h3 y hy hh.symm⟩
      · intro _; rfl

theorem celW_none {c : W3} {p : Int} : celW c p = none ↔ in3 c 0 67108863 = true := by
  unfold celW
  split
  · rename_i h; simp [h]
  · rename_i h; simp [nf h]

theorem orElse_none {a b : Option W3} : orElse' a b = none ↔ a = none ∧ b = none := by
  cases a <;> simp [orElse']

theorem wr_none {x : ScT} : wr x = none ↔ okS x := by
  unfold wr okS
  by_cases hb : bigB x = true
  · rw [if_pos hb, hb]; simp
  rw [if_neg hb]
  have hb' : bigB x = false := by simpa using hb
  have hz : x.2.2.2.1 ≤ 16 := by
    unfold bigB at hb'
    simp only [Bool.or_eq_false_iff, decide_eq_false_iff_not] at hb'
    omega
  rw [orElse_none, orElse_none, orElse_none, orElse_none]
  unfold wM wT wL
  rw [firstF_none_iff, firstF_none_iff, firstF_none_iff]
  have eM : (∀ i, i < x.1.length → fM x i = none) ↔ ∀ m ∈ x.1, matG m := by
    constructor
    · intro h m hm
      obtain ⟨i, hi, rfl⟩ := List.getElem_of_mem hm
      have := h i hi
      unfold fM at this
      rw [List.getElem?_eq_getElem hi, Option.bind_some] at this
      exact matW_none.1 this
    · intro h i hi
      unfold fM
      rw [List.getElem?_eq_getElem hi, Option.bind_some]
      exact matW_none.2 (h _ (List.getElem_mem hi))
  have eT : (∀ i, i < x.2.1.length → fT x i = none) ↔ ∀ t ∈ x.2.1, triG x.1.length t := by
    constructor
    · intro h m hm
      obtain ⟨i, hi, rfl⟩ := List.getElem_of_mem hm
      have := h i hi
      unfold fT at this
      rw [List.getElem?_eq_getElem hi, Option.bind_some] at this
      exact triW_none.1 this
    · intro h i hi
      unfold fT
      rw [List.getElem?_eq_getElem hi, Option.bind_some]
      exact triW_none.2 (h _ (List.getElem_mem hi))
  have eL : (∀ i, i < x.2.2.1.length → fL x i = none) ↔ (∀ l ∈ x.2.2.1, litG x.2.1.length l) ∧ (x.2.2.1.Pairwise fun a b => a.1 ≠ b.1) := by
    rw [List.pairwise_iff_getElem]
    constructor
    · intro h
      have h' : ∀ i (hi : i < x.2.2.1.length), litG x.2.1.length x.2.2.1[i] ∧ ∀ y ∈ x.2.2.1.take i, y.1 ≠ x.2.2.1[i].1 := by
        intro i hi
        have := h i hi
        unfold fL at this
        rw [List.getElem?_eq_getElem hi, Option.bind_some] at this
        exact litW_none.1 this
      refine ⟨fun m hm => ?_, fun i j hi hj hij => ?_⟩
      · obtain ⟨i, hi, rfl⟩ := List.getElem_of_mem hm
        exact (h' i hi).1
      · refine (h' j hj).2 x.2.2.1[i] ?_
        rw [List.mem_take_iff_getElem]
        exact ⟨i, by omega, rfl⟩
    · rintro ⟨h1, h2⟩ i hi
      unfold fL
      rw [List.getElem?_eq_getElem hi, Option.bind_some]
      refine litW_none.2 ⟨h1 _ (List.getElem_mem hi), fun y hy => ?_⟩
      rw [List.mem_take_iff_getElem] at hy
      obtain ⟨j, hj, rfl⟩ := hy
      exact h2 j i (by omega) hi (by omega)
  have eZ : wZ x = none ↔ (0 ≤ x.2.2.2.1 ∧ (x.2.2.2.2.1.length : Int) = 8 * x.2.2.2.1) ∧ (∀ c ∈ x.2.2.2.2.1, in3 c 0 67108863 = true) := by
    unfold wZ
    by_cases h1 : x.2.2.2.1 < 0
    · rw [if_pos (decide_eq_true h1)]
      constructor
      · intro h; cases h
      · rintro ⟨⟨h, _⟩, _⟩; omega
    rw [if_neg (by simpa using h1), W_id (by omega) (by omega)]
    by_cases h2 : (x.2.2.2.2.1.length : Int) = 8 * x.2.2.2.1
    · rw [if_neg (by simpa using h2)]
      unfold wC
      rw [firstF_none_iff]
      constructor
      · intro h
        refine ⟨⟨by omega, h2⟩, fun m hm => ?_⟩
        obtain ⟨i, hi, rfl⟩ := List.getElem_of_mem hm
        have := h i hi
        unfold fC at this
        rw [List.getElem?_eq_getElem hi, Option.bind_some] at this
        exact celW_none.1 this
      · rintro ⟨_, h⟩ i hi
        unfold fC
        rw [List.getElem?_eq_getElem hi, Option.bind_some]
        exact celW_none.2 (h _ (List.getElem_mem hi))
    · rw [if_pos (by simpa using h2)]
      constructor
      · intro h; cases h
      · rintro ⟨⟨_, h⟩, _⟩; exact absurd h h2
  rw [eM, eT, eL, eZ]
  simp only [hb', true_and, and_assoc]

abbrev ZS : ScT := ([], [], [], 0, [], ((0, 0, 0), (0, 0, 0), (0, 0, 0), 0, 0, 0), 0, 0)

theorem Same_refl (x : ScT) (h : lightB x) : ref22_Same (x, x) = some true := by
  obtain ⟨h1, h2, h3, h4⟩ := h
  have e0 : ref22_Same.l0 (x, x, false, 0, ()) = some (.exit 0, x, x, false, (x.1.length : Int), ()) := by
    have := iter_count (t := ref22_Same.t0) (fun k => (x, x, false, (k : Int), ())) (e := .exit 0) (z := (x, x, false, (x.1.length : Int), ())) (by simp) x.1.length 0 rounds
      (fun k _ hk => by
        have hk : k < x.1.length := by omega
        unfold ref22_Same.t0
        simp only [tr_ite, tr_ret, tr_opt, decide_eq_true_eq]
        rw [if_pos (by omega), lget_nat _ hk, Option.bind_some, Option.bind_some, if_neg (by simp), W_succ (by omega)])
      (by
        unfold ref22_Same.t0
        simp only [tr_ite, tr_ret, decide_eq_true_eq]
        rw [if_neg (by omega), Nat.zero_add])
      (rounds_gt (by omega))
    exact this
  have e2 : ref22_Same.l2 (x, x, false, 0, ()) = some (.exit 2, x, x, false, (x.2.1.length : Int), ()) := by
    have := iter_count (t := ref22_Same.t2) (fun k => (x, x, false, (k : Int), ())) (e := .exit 2) (z := (x, x, false, (x.2.1.length : Int), ())) (by simp) x.2.1.length 0 rounds
      (fun k _ hk => by
        have hk : k < x.2.1.length := by omega
        unfold ref22_Same.t2
        simp only [tr_ite, tr_ret, tr_opt, decide_eq_true_eq]
        rw [if_pos (by omega), lget_nat _ hk, Option.bind_some, Option.bind_some, if_neg (by simp), W_succ (by omega)])
      (by
        unfold ref22_Same.t2
        simp only [tr_ite, tr_ret, decide_eq_true_eq]
        rw [if_neg (by omega), Nat.zero_add])
      (rounds_gt (by omega))
    exact this
  have e4 : ref22_Same.l4 (x, x, false, 0, ()) = some (.exit 4, x, x, false, (x.2.2.1.length : Int), ()) := by
    have := iter_count (t := ref22_Same.t4) (fun k => (x, x, false, (k : Int), ())) (e := .exit 4) (z := (x, x, false, (x.2.2.1.length : Int), ())) (by simp) x.2.2.1.length 0 rounds
      (fun k _ hk => by
        have hk : k < x.2.2.1.length := by omega
        unfold ref22_Same.t4
        simp only [tr_ite, tr_ret, tr_opt, decide_eq_true_eq]
        rw [if_pos (by omega), lget_nat _ hk, Option.bind_some, Option.bind_some, if_neg (by simp), W_succ (by omega)])
      (by
        unfold ref22_Same.t4
        simp only [tr_ite, tr_ret, decide_eq_true_eq]
        rw [if_neg (by omega), Nat.zero_add])
      (rounds_gt (by omega))
    exact this
  have e6 : ref22_Same.l6 (x, x, false, 0, ()) = some (.exit 6, x, x, false, (x.2.2.2.2.1.length : Int), ()) := by
    have := iter_count (t := ref22_Same.t6) (fun k => (x, x, false, (k : Int), ())) (e := .exit 6) (z := (x, x, false, (x.2.2.2.2.1.length : Int), ())) (by simp) x.2.2.2.2.1.length 0 rounds
      (fun k _ hk => by
        have hk : k < x.2.2.2.2.1.length := by omega
        unfold ref22_Same.t6
        simp only [tr_ite, tr_ret, tr_opt, decide_eq_true_eq]
        rw [if_pos (by omega), lget_nat _ hk, Option.bind_some, Option.bind_some, if_neg (by simp), W_succ (by omega)])
      (by
        unfold ref22_Same.t6
        simp only [tr_ite, tr_ret, decide_eq_true_eq]
        rw [if_neg (by omega), Nat.zero_add])
      (rounds_gt (by omega))
    exact this
  unfold ref22_Same ref22_Same.t
  dsimp only
  rw [tr_ite, if_neg (by simp), tr_opt, e0, Option.bind_some]
  dsimp only
  rw [tr_ite, if_pos (show exEq (.exit 0) (.exit 0) = true from rfl), tr_opt, e2, Option.bind_some]
  dsimp only
  rw [tr_ite, if_pos (show exEq (.exit 2) (.exit 2) = true from rfl), tr_opt, e4, Option.bind_some]
  dsimp only
  rw [tr_ite, if_pos (show exEq (.exit 4) (.exit 4) = true from rfl), tr_opt, e6, Option.bind_some]
  dsimp only
  rw [tr_ite, if_pos (show exEq (.exit 6) (.exit 6) = true from rfl), tr_ret]

theorem take_snoc {α : Type} (l : List α) (v : α) : List.take (l.length + 1) (l ++ [v]) = l ++ [v] := List.take_of_length_le (by simp)
theorem bigB_false {x : ScT} : bigB x = false ↔ x.1.length ≤ 32 ∧ x.2.1.length ≤ 512 ∧ x.2.2.1.length ≤ 512 ∧ x.2.2.2.1 ≤ 16 := by
  unfold bigB
  simp only [Bool.or_eq_false_iff, decide_eq_false_iff_not]
  omega
end Go.Proofs.Pen

namespace Go.Proofs.Pen
open Go Go.Proofs
theorem doorBase_os (os : Os) : (doorBase os).os = os := rfl
theorem doorWorld_os (os : Os) : (doorWorld os).os = os := (World.layVars_os Tryz.prog (doorBase os) doorPlain).trans (doorBase_os os)
end Go.Proofs.Pen

namespace Go.Proofs.Pen
open Go Go.Proofs
noncomputable def numLoop.deeps : Deeps := { D := [52], C := [], frz := false, S := fun _ _ => noS }
theorem numLoop.deepsOk : LoopsOK Tryz.prog numLoop.deeps.S := (loops_none _)
def numLoop.L0 : List (Nat × Lay) := [(9000, .blk 0 TScn), (9001, .oblk 1 [.own TMatD, .own TTriD, .own TLitD, .dat TI, .own TP, .dat TCam, .dat TI, .dat TI, .mpi, .dat TI, .dat (.sl .str)]), (9002, .bdead 2), (9003, .bdead 3), (9004, .bdead 4), (9005, .bdead 5), (9006, .bdead 6), (0, .rf 1 0), (2, .val TI), (6, .row TI), (7, .val TE), (9, .row TI), (27, .val (.sl .str)), (28, .val TI), (29, .val TI)]
noncomputable def numLoop.t0 (x : ((List ((Int × Int × Int) × (Int × Int × Int) × Int)) × (List ((Int × Int × Int) × (Int × Int × Int) × (Int × Int × Int) × Int)) × (List (Int × Int × Int × Int)) × Int × (List (Int × Int × Int)) × ((Int × Int × Int) × (Int × Int × Int) × (Int × Int × Int) × Int × Int × Int) × Int × Int) × (List ((Int × Int × Int) × (Int × Int × Int) × Int) × List ((Int × Int × Int) × (Int × Int × Int) × (Int × Int × Int) × Int) × List (Int × Int × Int × Int) × Int × List (Int × Int × Int) × ((Int × Int × Int) × (Int × Int × Int) × (Int × Int × Int) × Int × Int × Int) × Int × Int × List (ByteArray × Bool) × Int × (List (ByteArray)) × Unit) × Int × List Int × ErrD × List Int × (List (ByteArray)) × Int × Int × Unit) : T (Ex × ((List ((Int × Int × Int) × (Int × Int × Int) × Int)) × (List ((Int × Int × Int) × (Int × Int × Int) × (Int × Int × Int) × Int)) × (List (Int × Int × Int × Int)) × Int × (List (Int × Int × Int)) × ((Int × Int × Int) × (Int × Int × Int) × (Int × Int × Int) × Int × Int × Int) × Int × Int) × (List ((Int × Int × Int) × (Int × Int × Int) × Int) × List ((Int × Int × Int) × (Int × Int × Int) × (Int × Int × Int) × Int) × List (Int × Int × Int × Int) × Int × List (Int × Int × Int) × ((Int × Int × Int) × (Int × Int × Int) × (Int × Int × Int) × Int × Int × Int) × Int × Int × List (ByteArray × Bool) × Int × (List (ByteArray)) × Unit) × Int × List Int × ErrD × List Int × (List (ByteArray)) × Int × Int × Unit) := T.ite (decide (x.2.2.2.2.2.2.2.2.1 < x.2.2.2.2.2.2.2.1)) (T.opt (lget x.2.2.2.2.2.2.1 x.2.2.2.2.2.2.2.2.1) fun y => T.ite (decide (x.2.2.2.2.2.2.2.2.1 < x.2.2.1)) (T.opt (lex_Whole y) fun y => T.ite (!y.2) (T.opt (fault_New ((6 : Int), x.2.1.2.2.2.2.2.2.2.2.2.1)) fun y => T.opt (fault_Wrap (y, (9 : Int), (0 : Int))) fun y => T.ret (Ex.ret, x.1, (List.take x.2.1.1.length x.2.1.1, List.take x.2.1.2.1.length x.2.1.2.1, List.take x.2.1.2.2.1.length x.2.1.2.2.1, x.2.1.2.2.2.1, List.take x.2.1.2.2.2.2.1.length x.2.1.2.2.2.2.1, x.2.1.2.2.2.2.2.1, x.2.1.2.2.2.2.2.2.1, x.2.1.2.2.2.2.2.2.2.1, x.2.1.2.2.2.2.2.2.2.2.1, x.2.1.2.2.2.2.2.2.2.2.2.1, x.2.1.2.2.2.2.2.2.2.2.2.2.1, ()), x.2.2.1, [], y, List.take x.2.2.2.2.2.1.length x.2.2.2.2.2.1, x.2.2.2.2.2.2.1, x.2.2.2.2.2.2.2.1, x.2.2.2.2.2.2.2.2.1, ())) (T.ite (decide ((x.2.2.2.2.2.1.length + (1 : Nat)) * nat_lit 8 ≤ most)) (T.ret (Ex.normal, x.1, (List.take x.2.1.1.length x.2.1.1, List.take x.2.1.2.1.length x.2.1.2.1, List.take x.2.1.2.2.1.length x.2.1.2.2.1, x.2.1.2.2.2.1, List.take x.2.1.2.2.2.2.1.length x.2.1.2.2.2.2.1, x.2.1.2.2.2.2.2.1, x.2.1.2.2.2.2.2.2.1, x.2.1.2.2.2.2.2.2.2.1, x.2.1.2.2.2.2.2.2.2.2.1, x.2.1.2.2.2.2.2.2.2.2.2.1, x.2.1.2.2.2.2.2.2.2.2.2.2.1, ()), x.2.2.1, List.take x.2.2.2.1.length x.2.2.2.1, x.2.2.2.2.1, List.take (x.2.2.2.2.2.1.length + (1 : Nat)) (List.take x.2.2.2.2.2.1.length x.2.2.2.2.2.1 ++ [y.1]), x.2.2.2.2.2.2.1, x.2.2.2.2.2.2.2.1, W (x.2.2.2.2.2.2.2.2.1 + (1 : Int)), ())) T.fail)) (T.opt (lex_Number y) fun y => T.ite (!y.2) (T.opt (fault_New ((6 : Int), x.2.1.2.2.2.2.2.2.2.2.2.1)) fun y => T.opt (fault_Wrap (y, (9 : Int), (0 : Int))) fun y => T.ret (Ex.ret, x.1, (List.take x.2.1.1.length x.2.1.1, List.take x.2.1.2.1.length x.2.1.2.1, List.take x.2.1.2.2.1.length x.2.1.2.2.1, x.2.1.2.2.2.1, List.take x.2.1.2.2.2.2.1.length x.2.1.2.2.2.2.1, x.2.1.2.2.2.2.2.1, x.2.1.2.2.2.2.2.2.1, x.2.1.2.2.2.2.2.2.2.1, x.2.1.2.2.2.2.2.2.2.2.1, x.2.1.2.2.2.2.2.2.2.2.2.1, x.2.1.2.2.2.2.2.2.2.2.2.2.1, ()), x.2.2.1, [], y, List.take x.2.2.2.2.2.1.length x.2.2.2.2.2.1, x.2.2.2.2.2.2.1, x.2.2.2.2.2.2.2.1, x.2.2.2.2.2.2.2.2.1, ())) (T.ite (decide ((x.2.2.2.2.2.1.length + (1 : Nat)) * nat_lit 8 ≤ most)) (T.ret (Ex.normal, x.1, (List.take x.2.1.1.length x.2.1.1, List.take x.2.1.2.1.length x.2.1.2.1, List.take x.2.1.2.2.1.length x.2.1.2.2.1, x.2.1.2.2.2.1, List.take x.2.1.2.2.2.2.1.length x.2.1.2.2.2.2.1, x.2.1.2.2.2.2.2.1, x.2.1.2.2.2.2.2.2.1, x.2.1.2.2.2.2.2.2.2.1, x.2.1.2.2.2.2.2.2.2.2.1, x.2.1.2.2.2.2.2.2.2.2.2.1, x.2.1.2.2.2.2.2.2.2.2.2.2.1, ()), x.2.2.1, List.take x.2.2.2.1.length x.2.2.2.1, x.2.2.2.2.1, List.take (x.2.2.2.2.2.1.length + (1 : Nat)) (List.take x.2.2.2.2.2.1.length x.2.2.2.2.2.1 ++ [y.1]), x.2.2.2.2.2.2.1, x.2.2.2.2.2.2.2.1, W (x.2.2.2.2.2.2.2.2.1 + (1 : Int)), ())) T.fail))) (T.ret (Ex.exit (0 : Nat), x.1, (List.take x.2.1.1.length x.2.1.1, List.take x.2.1.2.1.length x.2.1.2.1, List.take x.2.1.2.2.1.length x.2.1.2.2.1, x.2.1.2.2.2.1, List.take x.2.1.2.2.2.2.1.length x.2.1.2.2.2.2.1, x.2.1.2.2.2.2.2.1, x.2.1.2.2.2.2.2.2.1, x.2.1.2.2.2.2.2.2.2.1, x.2.1.2.2.2.2.2.2.2.2.1, x.2.1.2.2.2.2.2.2.2.2.2.1, x.2.1.2.2.2.2.2.2.2.2.2.2.1, ()), x.2.2.1, List.take x.2.2.2.1.length x.2.2.2.1, x.2.2.2.2.1, List.take x.2.2.2.2.2.1.length x.2.2.2.2.2.1, x.2.2.2.2.2.2.1, x.2.2.2.2.2.2.2.1, x.2.2.2.2.2.2.2.2.1, ()))
noncomputable def numLoop.l0 (x : ((List ((Int × Int × Int) × (Int × Int × Int) × Int)) × (List ((Int × Int × Int) × (Int × Int × Int) × (Int × Int × Int) × Int)) × (List (Int × Int × Int × Int)) × Int × (List (Int × Int × Int)) × ((Int × Int × Int) × (Int × Int × Int) × (Int × Int × Int) × Int × Int × Int) × Int × Int) × (List ((Int × Int × Int) × (Int × Int × Int) × Int) × List ((Int × Int × Int) × (Int × Int × Int) × (Int × Int × Int) × Int) × List (Int × Int × Int × Int) × Int × List (Int × Int × Int) × ((Int × Int × Int) × (Int × Int × Int) × (Int × Int × Int) × Int × Int × Int) × Int × Int × List (ByteArray × Bool) × Int × (List (ByteArray)) × Unit) × Int × List Int × ErrD × List Int × (List (ByteArray)) × Int × Int × Unit) : Option (Ex × ((List ((Int × Int × Int) × (Int × Int × Int) × Int)) × (List ((Int × Int × Int) × (Int × Int × Int) × (Int × Int × Int) × Int)) × (List (Int × Int × Int × Int)) × Int × (List (Int × Int × Int)) × ((Int × Int × Int) × (Int × Int × Int) × (Int × Int × Int) × Int × Int × Int) × Int × Int) × (List ((Int × Int × Int) × (Int × Int × Int) × Int) × List ((Int × Int × Int) × (Int × Int × Int) × (Int × Int × Int) × Int) × List (Int × Int × Int × Int) × Int × List (Int × Int × Int) × ((Int × Int × Int) × (Int × Int × Int) × (Int × Int × Int) × Int × Int × Int) × Int × Int × List (ByteArray × Bool) × Int × (List (ByteArray)) × Unit) × Int × List Int × ErrD × List Int × (List (ByteArray)) × Int × Int × Unit) := (iterT numLoop.t0 rounds x).run
theorem numLoop.k0 : bodies 0 (lp Tryz.f53 []) = [.loop (loopIn 0 (lp Tryz.f53 []))] ∧ WP Tryz.prog 7 (.block 0 (.loop (loopIn 0 (lp Tryz.f53 [])))) (loopS numLoop.L0 53 0 [.exit 0, .ret] numLoop.l0) :=
  loop_treeN 7 (L := numLoop.L0) (F := (dp Tryz.prog (ext (ext (ext (ext Xs 75 lex_Number.q) 76 lex_Whole.q) 47 fault_Wrap.q) 48 fault_New.q) numLoop.deeps 100 8)) (D := (inL numLoop.deeps.D)) (tab := []) (t := numLoop.t0) mixed (dp_ok mixed (quiet_ext (quiet_ext (quiet_ext (quiet_ext Xok lex_Number.ok) lex_Whole.ok) fault_Wrap.ok) fault_New.ok) numLoop.deepsOk 100 8).1 (dp_ok mixed (quiet_ext (quiet_ext (quiet_ext (quiet_ext Xok lex_Number.ok) lex_Whole.ok) fault_Wrap.ok) fault_New.ok) numLoop.deepsOk 100 8).2 (fun _ => rfl) (by kernel_rfl) (by kernel_rfl) trivial (fun x => by kernel_rfl)
noncomputable def numLoop.S : List (Nat × (St → T (Ex × St))) := [(0, loopS numLoop.L0 53 0 [.exit 0, .ret] numLoop.l0)]
theorem numLoop.tab : TabOK Tryz.prog 7 (codeOf Tryz.f53) numLoop.S := ⟨numLoop.k0, trivial⟩
end Go.Proofs.Pen

namespace Go.Proofs.Pen
open Go Go.Proofs
noncomputable def parse_bad.t (x : Int) : T (ErrD) := T.opt (fault_New (x, (0 : Int))) fun y => T.opt (fault_Wrap (y, (9 : Int), (0 : Int))) fun y => T.ret y
noncomputable def parse_bad (x : Int) : Option (ErrD) := (parse_bad.t x).run
noncomputable def parse_bad.q : List AV → T AV := entry [TI] (outR [TE]) fun x => .opt (parse_bad x) .ret
theorem parse_bad.ok : FnOK Tryz.prog 30 parse_bad.q :=
  entry_call (ps := [TI]) (rs := [TE]) (F := ({ quiet := (ext (ext Xs 48 fault_New.q) 47 fault_Wrap.q), deep := noDeep } : Fns)) (D := D0) (S := tabS []) (t := parse_bad.t) mixed (quiet_ext (quiet_ext Xok fault_New.ok) fault_Wrap.ok) (deep_none _) Tryz.func30 (by kernel_rfl) (sok_fn trivial) (by kernel_rfl) (fun x => by kernel_rfl)
end Go.Proofs.Pen

namespace Go.Proofs.Pen
open Go Go.Proofs
noncomputable def parse_takes.t (x : ByteArray) : T (Int × Int × Bool) := T.ite (ByteArray.toList x == (ByteArray.mk #[109, 97, 116]).toList) (T.ret ((7 : Int), (0 : Int), true)) (T.ite (ByteArray.toList x == (ByteArray.mk #[109, 97, 116, 116]).toList) (T.ret ((3 : Int), (0 : Int), true)) (T.ite (ByteArray.toList x == (ByteArray.mk #[99, 101, 108, 108]).toList) (T.ret ((3 : Int), (0 : Int), true)) (T.ite (ByteArray.toList x == (ByteArray.mk #[116, 114, 105]).toList) (T.ret ((10 : Int), (1 : Int), true)) (T.ite (ByteArray.toList x == (ByteArray.mk #[108, 105, 103, 104, 116]).toList) (T.ret ((4 : Int), (1 : Int), true)) (T.ite (ByteArray.toList x == (ByteArray.mk #[115, 107, 121]).toList) (T.ret ((1 : Int), (1 : Int), true)) (T.ite (ByteArray.toList x == (ByteArray.mk #[99, 97, 109, 101, 114, 97]).toList) (T.ret ((12 : Int), (0 : Int), true)) (T.ite (ByteArray.toList x == (ByteArray.mk #[112, 105, 110, 104, 111, 108, 101]).toList) (T.ret ((10 : Int), (0 : Int), true)) (T.ite (ByteArray.toList x == (ByteArray.mk #[102, 105, 108, 116, 101, 114]).toList) (T.ret ((2 : Int), (1 : Int), true)) (T.ret ((0 : Int), (0 : Int), false))))))))))
noncomputable def parse_takes (x : ByteArray) : Option (Int × Int × Bool) := (parse_takes.t x).run
noncomputable def parse_takes.q : List AV → T AV := entry [.str] (outR [TI, TI, .bool]) fun x => .opt (parse_takes x) .ret
theorem parse_takes.ok : FnOK Tryz.prog 51 parse_takes.q :=
  entry_call (ps := [.str]) (rs := [TI, TI, .bool]) (F := ({ quiet := Xs, deep := noDeep } : Fns)) (D := D0) (S := tabS []) (t := parse_takes.t) mixed Xok (deep_none _) Tryz.func51 (by kernel_rfl) (sok_fn trivial) (by kernel_rfl) (fun x => by kernel_rfl)
end Go.Proofs.Pen

namespace Go.Proofs.Pen
open Go Go.Proofs
noncomputable def parse_point.t (x : (List (Int))) : T ((Int × Int × Int)) := T.opt (lget x (0 : Int)) fun y => T.opt (lget x (1 : Int)) fun y_1 => T.opt (lget x (2 : Int)) fun y_2 => T.ret (y, y_1, y_2)
noncomputable def parse_point (x : (List (Int))) : Option ((Int × Int × Int)) := (parse_point.t x).run
noncomputable def parse_point.q : List AV → T AV := entry [(.sl TI)] (outR [TP]) fun x => .opt (parse_point x) .ret
theorem parse_point.ok : FnOK Tryz.prog 77 parse_point.q :=
  entry_call (ps := [(.sl TI)]) (rs := [TP]) (F := ({ quiet := Xs, deep := noDeep } : Fns)) (D := D0) (S := tabS []) (t := parse_point.t) mixed Xok (deep_none _) Tryz.func77 (by kernel_rfl) (sok_fn trivial) (by kernel_rfl) (fun x => by kernel_rfl)
end Go.Proofs.Pen
