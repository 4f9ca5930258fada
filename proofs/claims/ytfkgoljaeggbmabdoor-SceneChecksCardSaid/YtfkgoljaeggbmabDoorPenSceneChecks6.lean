/- A part of the proof that the law SceneChecks is true of every input: models of the functions that the law reaches, and what holds of them. -/
import Derived.Test.YtfkgoljaeggbmabDoorPenKit0
import Derived.Test.YtfkgoljaeggbmabDoorPenKit1
import Derived.Test.YtfkgoljaeggbmabDoorPenKit2
import Derived.Test.YtfkgoljaeggbmabDoorPenSceneChecks3
import Derived.Test.YtfkgoljaeggbmabDoorPenKit4
import Derived.Test.YtfkgoljaeggbmabDoorPenSceneChecks5
namespace Go.Proofs.Pen
open Go Go.Proofs

theorem ConL_eq (l : List LitT) (e : LitT) (h : l.length ≤ 100) : ConL (l, e) = some (l.any fun y => e.1 == y.1) := by
  have key : ∀ (n k m : Nat) (r : Int), k + n = l.length → n < m → ∃ ex a b, (iterT IdxL.t0 m (l, e, r, (l.length : Int), (k : Int), ())).run = some (ex, l, e, a, (l.length : Int), b, ()) ∧
      ((ex = .exit 0 ∧ ((l.drop k).any fun y => e.1 == y.1) = false) ∨ (ex = .ret ∧ 0 ≤ a ∧ ((l.drop k).any fun y => e.1 == y.1) = true)) := by
    intro n
    induction n with
    | zero =>
      intro k m r hk hm
      obtain ⟨m, rfl⟩ : ∃ j, m = j + 1 := ⟨m - 1, by omega⟩
      have hd : l.drop k = [] := List.drop_eq_nil_of_le (by omega)
      rw [hd]
      refine ⟨.exit 0, r, (k : Int), iter_stop (by simp) ?_, .inl ⟨rfl, rfl⟩⟩
      unfold IdxL.t0
      dsimp only
      rw [tr_ite, decide_eq_false (by omega), if_neg (by simp), tr_ret]
    | succ n ih =>
      intro k m r hk hm
      obtain ⟨m, rfl⟩ : ∃ j, m = j + 1 := ⟨m - 1, by omega⟩
      have hlt : k < l.length := by omega
      have hd : l.drop k = l[k] :: l.drop (k + 1) := List.drop_eq_getElem_cons hlt
      rw [hd, List.any_cons]
      cases hc : e.1 == l[k].1 with
      | true =>
        refine ⟨.ret, (k : Int), (k : Int), iter_stop (by simp) ?_, .inr ⟨rfl, by omega, by simp⟩⟩
        unfold IdxL.t0
        dsimp only
        rw [tr_ite, decide_eq_true (by omega), if_pos rfl, tr_opt, lget_nat l hlt, Option.bind_some, tr_ite, hc, if_pos rfl, tr_ret]
      | false =>
        obtain ⟨ex, a, b, h1, h2⟩ := ih (k + 1) m r (by omega) (by omega)
        refine ⟨ex, a, b, ?_, by simpa using h2⟩
        have h0 : (IdxL.t0 (l, e, r, (l.length : Int), (k : Int), ())).run = some (.normal, l, e, r, (l.length : Int), ((k + 1 : Nat) : Int), ()) := by
          unfold IdxL.t0
          dsimp only
          rw [tr_ite, decide_eq_true (by omega), if_pos rfl, tr_opt, lget_nat l hlt, Option.bind_some, tr_ite, hc, if_neg (by simp), tr_ret, W_succ (by omega)]
        rw [iter_go h0]; exact h1
  obtain ⟨ex, a, b, h1, h2⟩ := key l.length 0 rounds 0 (by omega) (rounds_gt (by omega))
  rw [List.drop_zero] at h2
  have hl : IdxL.l0 (l, e, 0, (l.length : Int), 0, ()) = some (ex, l, e, a, (l.length : Int), b, ()) := h1
  have hi : ∃ i, IdxL (l, e) = some i ∧ decide (i ≥ 0) = (l.any fun y => e.1 == y.1) := by
    unfold IdxL IdxL.t
    dsimp only
    rw [tr_opt, hl, Option.bind_some]
    rcases h2 with ⟨rfl, h2⟩ | ⟨rfl, h3, h2⟩
    · exact ⟨-1, rfl, by rw [h2]; rfl⟩
    · exact ⟨a, rfl, by rw [h2]; exact decide_eq_true h3⟩
  obtain ⟨i, e1, e2⟩ := hi
  unfold ConL ConL.t
  rw [tr_opt, e1, Option.bind_some, tr_ret, e2]

theorem cells_eq (x : ScT) (e : ErrD) (hx : x.2.2.2.2.1.length ≤ 200) : scene_lights.l2 (e, (0, 67108863), x.2.2.2.2.1, (x.2.2.2.2.1.length : Int), 0, ()) =
    some (match firstF (fC x) 0 x.2.2.2.2.1.length with | some (i, w) => (.ret, mkErr (some w), (0, 67108863), x.2.2.2.2.1, (x.2.2.2.2.1.length : Int), (i : Int), ()) | none => (.exit 2, e, (0, 67108863), x.2.2.2.2.1, (x.2.2.2.2.1.length : Int), (x.2.2.2.2.1.length : Int), ())) :=
  iter_first (t := scene_lights.t2) (fun k => (e, (0, 67108863), x.2.2.2.2.1, (x.2.2.2.2.1.length : Int), (k : Int), ())) (fC x) (fun k w => (mkErr (some w), (0, 67108863), x.2.2.2.2.1, (x.2.2.2.2.1.length : Int), (k : Int), ())) (e := .exit 2) (z := (e, (0, 67108863), x.2.2.2.2.1, (x.2.2.2.2.1.length : Int), (x.2.2.2.2.1.length : Int), ())) (by simp) x.2.2.2.2.1.length 0 rounds
    (fun k _ hk hf => by
      have hlt : k < x.2.2.2.2.1.length := by omega
      unfold fC at hf
      rw [List.getElem?_eq_getElem hlt, Option.bind_some] at hf
      generalize hm : x.2.2.2.2.1[k] = m at hf
      unfold scene_lights.t2
      dsimp only
      rw [tr_ite, decide_eq_true (by omega), if_pos rfl, tr_opt, lget_nat x.2.2.2.2.1 hlt, Option.bind_some, hm, tr_opt, within3, Option.bind_some, tr_ite]
      unfold celW at hf
      split at hf
      · cases hf
      rename_i h1
      have h1 : in3 m 0 67108863 = true := nf h1
      rw [h1, if_neg (by simp), tr_ret, W_succ (by omega)])
    (fun k w _ hk hf => by
      have hlt : k < x.2.2.2.2.1.length := by omega
      unfold fC at hf
      rw [List.getElem?_eq_getElem hlt, Option.bind_some] at hf
      generalize hm : x.2.2.2.2.1[k] = m at hf
      have hb : scene_bound (3, W ((k : Int) + 1)) = some (mkErr (some (10, 3, ((k + 1 : Nat) : Int)))) := by rw [nn (by omega)]; exact bound_eq (by decide)
      unfold scene_lights.t2
      dsimp only
      rw [tr_ite, decide_eq_true (by omega), if_pos rfl, tr_opt, lget_nat x.2.2.2.2.1 hlt, Option.bind_some, hm, tr_opt, within3, Option.bind_some, tr_ite]
      unfold celW at hf
      split at hf
      · rename_i h1
        cases hf
        rw [h1, if_pos (by simp), tr_opt, hb, Option.bind_some, tr_ret]
      · cases hf)
    (by
      rw [Nat.zero_add]
      unfold scene_lights.t2
      dsimp only
      rw [tr_ite, decide_eq_false (by omega), if_neg (by simp), tr_ret]) (rounds_gt (by omega))

theorem lits_eq (x : ScT) (hx : x.2.2.1.length ≤ 60) : scene_lights.l0 (x, .nil, (0, 67108863), x.2.2.1, (x.2.2.1.length : Int), 0, ()) =
    some (match firstF (fL x) 0 x.2.2.1.length with | some (i, w) => (.ret, x, mkErr (some w), (0, 67108863), x.2.2.1, (x.2.2.1.length : Int), (i : Int), ()) | none => (.exit 0, x, .nil, (0, 67108863), x.2.2.1, (x.2.2.1.length : Int), (x.2.2.1.length : Int), ())) :=
  iter_first (t := scene_lights.t0) (fun k => (x, .nil, (0, 67108863), x.2.2.1, (x.2.2.1.length : Int), (k : Int), ())) (fL x) (fun k w => (x, mkErr (some w), (0, 67108863), x.2.2.1, (x.2.2.1.length : Int), (k : Int), ())) (e := .exit 0) (z := (x, .nil, (0, 67108863), x.2.2.1, (x.2.2.1.length : Int), (x.2.2.1.length : Int), ())) (by simp) x.2.2.1.length 0 rounds
    (fun k _ hk hf => by
      have hlt : k < x.2.2.1.length := by omega
      unfold fL at hf
      rw [List.getElem?_eq_getElem hlt, Option.bind_some] at hf
      generalize hm : x.2.2.1[k] = m at hf
      have hsl : (decide ((0 : Int) ≤ 0) && decide ((0 : Int) ≤ (k : Int)) && decide ((k : Int) ≤ (x.2.2.1.length : Int))) = true := by
        rw [decide_eq_true (by omega), decide_eq_true (by omega), decide_eq_true (by omega)]; rfl
      have hcon : ConL (List.take (Int.toNat (k : Int) - Int.toNat 0) (List.drop (Int.toNat 0) x.2.2.1), m) = some ((x.2.2.1.take k).any fun y => m.1 == y.1) := by
        have : List.take (Int.toNat (k : Int) - Int.toNat 0) (List.drop (Int.toNat 0) x.2.2.1) = x.2.2.1.take k := by simp
        rw [this]; exact ConL_eq _ _ (by rw [List.length_take]; omega)
      unfold scene_lights.t0
      dsimp only
      rw [tr_ite, decide_eq_true (by omega), if_pos rfl, tr_opt, lget_nat x.2.2.1 hlt, Option.bind_some, hm, tr_ite, hsl, if_pos rfl, tr_opt, hcon, Option.bind_some, tr_ite]
      unfold litW at hf
      split at hf
      · cases hf
      rename_i h0
      rw [if_neg h0, tr_opt, within3, Option.bind_some, tr_ite]
      split at hf
      · cases hf
      rename_i h1
      have h1 : in3 m.2 0 67108863 = true := nf h1
      rw [h1, if_neg (by simp), tr_ret, W_succ (by omega)])
    (fun k w _ hk hf => by
      have hlt : k < x.2.2.1.length := by omega
      unfold fL at hf
      rw [List.getElem?_eq_getElem hlt, Option.bind_some] at hf
      generalize hm : x.2.2.1[k] = m at hf
      have hb : scene_bound (3, W ((k : Int) + 1)) = some (mkErr (some (10, 3, ((k + 1 : Nat) : Int)))) := by rw [nn (by omega)]; exact bound_eq (by decide)
      have hb2 : scene_broken (2, W ((k : Int) + 1)) = some (mkErr (some (11, 2, ((k + 1 : Nat) : Int)))) := by rw [nn (by omega)]; exact broken_eq (by decide)
      have hsl : (decide ((0 : Int) ≤ 0) && decide ((0 : Int) ≤ (k : Int)) && decide ((k : Int) ≤ (x.2.2.1.length : Int))) = true := by
        rw [decide_eq_true (by omega), decide_eq_true (by omega), decide_eq_true (by omega)]; rfl
      have hcon : ConL (List.take (Int.toNat (k : Int) - Int.toNat 0) (List.drop (Int.toNat 0) x.2.2.1), m) = some ((x.2.2.1.take k).any fun y => m.1 == y.1) := by
        have : List.take (Int.toNat (k : Int) - Int.toNat 0) (List.drop (Int.toNat 0) x.2.2.1) = x.2.2.1.take k := by simp
        rw [this]; exact ConL_eq _ _ (by rw [List.length_take]; omega)
      unfold scene_lights.t0
      dsimp only
      rw [tr_ite, decide_eq_true (by omega), if_pos rfl, tr_opt, lget_nat x.2.2.1 hlt, Option.bind_some, hm, tr_ite, hsl, if_pos rfl, tr_opt, hcon, Option.bind_some, tr_ite]
      unfold litW at hf
      split at hf
      · rename_i h0
        cases hf
        rw [if_pos h0, tr_opt, hb2, Option.bind_some, tr_ret]
      rename_i h0
      rw [if_neg h0, tr_opt, within3, Option.bind_some, tr_ite]
      split at hf
      · rename_i h1
        cases hf
        rw [h1, if_pos (by simp), tr_opt, hb, Option.bind_some, tr_ret]
      · cases hf)
    (by
      rw [Nat.zero_add]
      unfold scene_lights.t0
      dsimp only
      rw [tr_ite, decide_eq_false (by omega), if_neg (by simp), tr_ret]) (rounds_gt (by omega))

theorem lights_eq (x : ScT) (hx : x.2.2.1.length ≤ 60) (hc : x.2.2.2.2.1.length ≤ 200) : scene_lights x = some (mkErr (orElse' (wL x) (wZ x))) := by
  have hb : scene_bound (3, 0) = some (mkErr (some (10, 3, 0))) := bound_eq (by decide)
  have hb2 : scene_broken (14, 0) = some (mkErr (some (11, 14, 0))) := broken_eq (by decide)
  unfold scene_lights scene_lights.t
  rw [tr_opt, lits_eq x hx, Option.bind_some]
  unfold wL
  cases hf : firstF (fL x) 0 x.2.2.1.length with
  | some p => rfl
  | none =>
    dsimp only
    rw [tr_ite, if_pos (by rfl), tr_ite, tr_opt, hb, Option.bind_some, tr_ret]
    show _ = some (mkErr (wZ x))
    unfold wZ
    by_cases h1 : decide (x.2.2.2.1 < 0) = true
    · rw [if_pos h1, if_pos h1]
    · rw [if_neg h1, if_neg h1, tr_ite, tr_opt, hb2, Option.bind_some, tr_ret]
      by_cases h2 : ((x.2.2.2.2.1.length : Int) != W (8 * x.2.2.2.1)) = true
      · rw [if_pos h2, if_pos h2]
      · rw [if_neg h2, if_neg h2, tr_opt, cells_eq x .nil hc, Option.bind_some]
        unfold wC
        cases hf : firstF (fC x) 0 x.2.2.2.2.1.length with
        | some p => rfl
        | none => rfl

theorem camera_eq (x : ScT) : scene_camera x = some (mkErr (camW x)) := by
  have hb : scene_bound (3, 0) = some (mkErr (some (10, 3, 0))) := bound_eq (by decide)
  have hb2 : scene_broken (13, 0) = some (mkErr (some (11, 13, 0))) := broken_eq (by decide)
  have hb3 : scene_broken (2, 0) = some (mkErr (some (11, 2, 0))) := broken_eq (by decide)
  unfold scene_camera scene_camera.t camW
  dsimp only
  rw [tr_opt, within3, Option.bind_some, tr_ite, tr_opt, hb, Option.bind_some, tr_ret]
  cases q1 : in3 x.2.2.2.2.2.1.1 (-1048576) 1048576
  · rw [if_pos (by rfl), if_pos (by rfl)]
  rw [if_neg (by simp), tr_opt, within3, Option.bind_some, tr_ite, tr_opt, Option.bind_some, tr_ret]
  cases q2 : in3 x.2.2.2.2.2.1.2.1 (-1048576) 1048576
  · rw [if_pos (by rfl), if_pos (by rfl)]
  rw [if_neg (by simp), tr_opt, within3, Option.bind_some, tr_ite, tr_opt, Option.bind_some, tr_ret]
  cases q3 : in3 x.2.2.2.2.2.1.2.2.1 (-1048576) 1048576
  · rw [if_pos (by rfl), if_pos (by rfl)]
  have hw2 : scene_within_1 (List.take 2 [x.2.2.2.2.2.1.2.2.2.1, x.2.2.2.2.2.1.2.2.2.2.2], 1, 1048576) = some (inB 1 1048576 [x.2.2.2.2.2.1.2.2.2.1, x.2.2.2.2.2.1.2.2.2.2.2]) := within_eq _ _ _ _ (by simp)
  have hi2 : inB 1 1048576 [x.2.2.2.2.2.1.2.2.2.1, x.2.2.2.2.2.1.2.2.2.2.2] = ((decide (1 ≤ x.2.2.2.2.2.1.2.2.2.1) && decide (x.2.2.2.2.2.1.2.2.2.1 ≤ 1048576)) && (decide (1 ≤ x.2.2.2.2.2.1.2.2.2.2.2) && decide (x.2.2.2.2.2.1.2.2.2.2.2 ≤ 1048576))) := by
    unfold inB; simp only [List.all_cons, List.all_nil, Bool.and_true]
  rw [if_neg (by simp), tr_opt, hw2, Option.bind_some, tr_ite, tr_opt, Option.bind_some, tr_ret, hi2]
  cases q4 : (decide (1 ≤ x.2.2.2.2.2.1.2.2.2.1) && decide (x.2.2.2.2.2.1.2.2.2.1 ≤ 1048576))
  · rw [if_pos (by rfl), if_pos (by rfl)]
  cases q5 : (decide (1 ≤ x.2.2.2.2.2.1.2.2.2.2.2) && decide (x.2.2.2.2.2.1.2.2.2.2.2 ≤ 1048576))
  · rw [if_pos (by rfl), if_pos (by rfl)]
  rw [if_neg (by simp), tr_opt, within1, Option.bind_some, tr_ite, tr_opt, Option.bind_some, tr_ret]
  cases q6 : (decide (0 ≤ x.2.2.2.2.2.1.2.2.2.2.1) && decide (x.2.2.2.2.2.1.2.2.2.2.1 ≤ 1048576))
  · rw [if_pos (by rfl), if_pos (by rfl)]
  rw [if_neg (by simp), if_neg (by simp), tr_ite, W_sub0, W_sub0, W_sub0, tr_opt, hb2, Option.bind_some, tr_ret]
  have hfl : (W (W (x.2.2.2.2.2.1.2.1.2.1 - x.2.2.2.2.2.1.1.2.1) * x.2.2.2.2.2.1.2.2.1.2.2) == W (W (x.2.2.2.2.2.1.2.1.2.2 - x.2.2.2.2.2.1.1.2.2) * x.2.2.2.2.2.1.2.2.1.2.1) && (W (W (x.2.2.2.2.2.1.2.1.2.2 - x.2.2.2.2.2.1.1.2.2) * x.2.2.2.2.2.1.2.2.1.1) == W (W (x.2.2.2.2.2.1.2.1.1 - x.2.2.2.2.2.1.1.1) * x.2.2.2.2.2.1.2.2.1.2.2) && W (W (x.2.2.2.2.2.1.2.1.1 - x.2.2.2.2.2.1.1.1) * x.2.2.2.2.2.1.2.2.1.2.1) == W (W (x.2.2.2.2.2.1.2.1.2.1 - x.2.2.2.2.2.1.1.2.1) * x.2.2.2.2.2.1.2.2.1.1))) = flatB (lessW x.2.2.2.2.2.1.2.1 x.2.2.2.2.2.1.1) x.2.2.2.2.2.1.2.2.1 := rfl
  rw [hfl]
  cases q7 : flatB (lessW x.2.2.2.2.2.1.2.1 x.2.2.2.2.2.1.1) x.2.2.2.2.2.1.2.2.1
  · rw [if_neg (by simp), if_neg (by simp), tr_ite, tr_opt, hb3, Option.bind_some, tr_ret]
    cases q8 : (x.2.2.2.2.2.2.1 != 1 && x.2.2.2.2.2.2.1 != 2)
    · rw [if_neg (by simp), if_neg (by simp), tr_opt, within1, Option.bind_some, tr_ite, tr_opt, Option.bind_some, tr_ret]
      cases q9 : (decide (1 ≤ x.2.2.2.2.2.2.2) && decide (x.2.2.2.2.2.2.2 ≤ 8192))
      · rw [if_pos (by rfl), if_pos (by rfl)]
      · rw [if_neg (by simp), if_neg (by simp)]; rfl
    · rw [if_pos (by rfl), if_pos (by rfl)]
  · rw [if_pos (by rfl), if_pos (by rfl)]

theorem mkErr_nil (w : Option W3) : (mkErr w).isNil = w.isNone := by cases w <;> rfl

theorem Check_eq (x : ScT) (h : lightB x) : scene_Check x = some (mkErr (wr x)) := by
  obtain ⟨h1, h2, h3, h4⟩ := h
  have hb : scene_bound (4, 0) = some (mkErr (some (10, 4, 0))) := bound_eq (by decide)
  have hm : scene_many x = some (mkErr (if bigB x = true then some (10, 4, 0) else none)) := by
    unfold scene_many scene_many.t
    rw [tr_ite, tr_opt, hb, Option.bind_some, tr_ret]
    show (if bigB x = true then _ else _) = _
    by_cases hbig : bigB x = true
    · rw [if_pos hbig, if_pos hbig]
    · rw [if_neg hbig, if_neg hbig]; rfl
  unfold scene_Check scene_Check.t wr
  rw [tr_opt, hm, Option.bind_some, tr_ite, mkErr_nil]
  by_cases hbig : bigB x = true
  · rw [if_pos hbig, if_pos (by rfl), tr_ret, if_pos hbig]
  · rw [if_neg hbig, if_neg (by simp), tr_opt, mats_eq x h1, Option.bind_some, tr_ite, mkErr_nil, if_neg hbig]
    cases e1 : wM x with
    | some w => rfl
    | none =>
      rw [if_neg (by simp), tr_opt, tris_eq x h2, Option.bind_some, tr_ite, mkErr_nil]
      cases e2 : wT x with
      | some w => rfl
      | none =>
        rw [if_neg (by simp), tr_opt, lights_eq x h3 h4, Option.bind_some, tr_ite, mkErr_nil]
        show _ = some (mkErr (orElse' (orElse' (wL x) (wZ x)) (camW x)))
        cases e3 : orElse' (wL x) (wZ x) with
        | some w => rw [if_pos (by rfl), tr_ret]; rfl
        | none => rw [if_neg (by simp), tr_opt, camera_eq, Option.bind_some, tr_ret]; rfl
end Go.Proofs.Pen

namespace Go.Proofs.Pen
open Go Go.Proofs

theorem tr_yes {α : Type} {b : Bool} {x y : T α} (h : b = true) : (T.ite b x y).run = x.run := by rw [tr_ite, if_pos h]
theorem tr_no {α : Type} {b : Bool} {x y : T α} (h : b = false) : (T.ite b x y).run = y.run := by rw [tr_ite, h, if_neg (by simp)]
theorem beqC (a b : Int) : (a == b) = (b == a) := by
  rw [Bool.eq_iff_iff, beq_iff_eq, beq_iff_eq]; exact eq_comm

theorem rmat_eq (m : MatT) (p : Int) : ref22_mat (m, p) = some (mkW (matW m p)) := by
  unfold ref22_mat ref22_mat.t
  show ((T.ite (decide (m.2.2 < 1) || decide (m.2.2 > 1024)) (T.ret (10, 3, p)) (T.ite (!(in3 m.1 0 9223372036854775807)) (T.ret (10, 3, p)) (T.ite (!(in3 m.2.1 0 9223372036854775807)) (T.ret (10, 3, p)) (T.ite (!(in3 m.1 0 1023) || decide (m.2.1.1 > W (1023 - m.1.1)) || decide (m.2.1.2.1 > W (1023 - m.1.2.1)) || decide (m.2.1.2.2 > W (1023 - m.1.2.2))) (T.ret (11, 4, p)) (T.ret (0, 0, 0)))))).run : Option W3) = _
  unfold matW
  rw [tr_ite, tr_ret, tr_ite, tr_ret, tr_ite, tr_ret, tr_ite, tr_ret, tr_ret]
  have e0 : (decide (m.2.2 < 1) || decide (m.2.2 > 1024)) = !(decide (1 ≤ m.2.2) && decide (m.2.2 ≤ 1024)) := by
    rw [Bool.eq_iff_iff]; first | (simp; done) | (simp; omega)
  rw [e0]
  cases q1 : (decide (1 ≤ m.2.2) && decide (m.2.2 ≤ 1024))
  · rfl
  cases q3 : in3 m.1 0 9223372036854775807
  · rfl
  cases q4 : in3 m.2.1 0 9223372036854775807
  · rfl
  simp only [Bool.not_true, Bool.false_eq_true, if_false, Bool.and_self, Bool.true_eq_false]
  obtain ⟨⟨a1, a2⟩, ⟨a3, a4⟩, a5, a6⟩ := in3_iff.1 q3
  obtain ⟨⟨b1, b2⟩, ⟨b3, b4⟩, b5, b6⟩ := in3_iff.1 q4
  have e : (!(in3 m.1 0 1023) || decide (m.2.1.1 > W (1023 - m.1.1)) || decide (m.2.1.2.1 > W (1023 - m.1.2.1)) || decide (m.2.1.2.2 > W (1023 - m.1.2.2))) = (over1 m.1.1 m.2.1.1 || over1 m.1.2.1 m.2.1.2.1 || over1 m.1.2.2 m.2.1.2.2) := by
    rw [W_id (by omega) (by omega), W_id (by omega) (by omega), W_id (by omega) (by omega), Bool.eq_iff_iff]
    unfold over1 in3
    simp only [Bool.or_eq_true, Bool.not_eq_true', Bool.and_eq_false_iff, decide_eq_true_eq, decide_eq_false_iff_not, ge_iff_le, gt_iff_lt]
    omega
  rw [e]
  cases (over1 m.1.1 m.2.1.1 || over1 m.1.2.1 m.2.1.2.1 || over1 m.1.2.2 m.2.1.2.2) <;> rfl

theorem rtri_eq (t : TriT) (nm p : Int) : ref22_tri (t, nm, p) = some (mkW (triW nm t p)) := by
  have hfl : (W (W (t.2.1.2.1 - t.1.2.1) * W (t.2.2.1.2.2 - t.1.2.2)) == W (W (t.2.1.2.2 - t.1.2.2) * W (t.2.2.1.2.1 - t.1.2.1)) && W (W (t.2.1.2.2 - t.1.2.2) * W (t.2.2.1.1 - t.1.1)) == W (W (t.2.1.1 - t.1.1) * W (t.2.2.1.2.2 - t.1.2.2)) && W (W (t.2.1.1 - t.1.1) * W (t.2.2.1.2.1 - t.1.2.1)) == W (W (t.2.1.2.1 - t.1.2.1) * W (t.2.2.1.1 - t.1.1))) = flatB (lessW t.2.1 t.1) (lessW t.2.2.1 t.1) := by
    rw [Bool.and_assoc]; rfl
  unfold ref22_tri ref22_tri.t
  dsimp only
  rw [hfl]
  show ((T.ite (decide (t.2.2.2 < 0) || decide (t.2.2.2 ≥ nm)) (T.ret (11, 2, p)) (T.ite (!(in3 t.1 (-1048576) 1048576)) (T.ret (10, 3, p)) (T.ite (!(in3 t.2.1 (-1048576) 1048576)) (T.ret (10, 3, p)) (T.ite (!(in3 t.2.2.1 (-1048576) 1048576)) (T.ret (10, 3, p)) (T.ite (flatB (lessW t.2.1 t.1) (lessW t.2.2.1 t.1)) (T.ret (11, 13, p)) (T.ret (0, 0, 0))))))).run : Option W3) = _
  unfold triW
  rw [tr_ite, tr_ret, tr_ite, tr_ret, tr_ite, tr_ret, tr_ite, tr_ret, tr_ite, tr_ret, tr_ret]
  cases (decide (t.2.2.2 < 0) || decide (t.2.2.2 ≥ nm)) <;> cases in3 t.1 (-1048576) 1048576 <;> cases in3 t.2.1 (-1048576) 1048576 <;> cases in3 t.2.2.1 (-1048576) 1048576 <;> cases flatB (lessW t.2.1 t.1) (lessW t.2.2.1 t.1) <;> rfl

theorem twice_eq (l : List LitT) (k : Nat) (nt : Int) (hk : k < l.length) (hl : l.length ≤ 60) : ∃ j, ref22_light.l0 (l, (k : Int), nt, (0, 0, 0), false, 0, ()) = some (.exit 0, l, (k : Int), nt, (0, 0, 0), (l.take k).any fun y => l[k].1 == y.1, j, ()) := by
  have := iter_count (t := ref22_light.t0) (fun i => ((l, (k : Int), nt, (0, 0, 0), (l.take i).any fun y => l[k].1 == y.1, (i : Int), ()) : List LitT × Int × Int × W3 × Bool × Int × Unit)) (e := .exit 0) (z := (l, (k : Int), nt, (0, 0, 0), (l.take k).any fun y => l[k].1 == y.1, (k : Int), ())) (by simp) k 0 rounds (fun i _ hi => ?_) ?_ (rounds_gt (by omega))
  · exact ⟨(k : Int), this⟩
  · have hlt : i < l.length := by omega
    have hs : ((l.take (i + 1)).any fun y => l[k].1 == y.1) = (((l.take i).any fun y => l[k].1 == y.1) || (l[i].1 == l[k].1)) := by
      rw [List.take_succ_eq_append_getElem hlt, List.any_append, beqC l[i].1]; simp
    unfold ref22_light.t0
    dsimp only
    rw [tr_ite, decide_eq_true (by omega), if_pos rfl, tr_ite, hs, tr_opt, lget_nat l hlt, Option.bind_some, tr_opt, lget_nat l hk, Option.bind_some, tr_ret, tr_ret, W_succ (by omega)]
    cases (l.take i).any fun y => l[k].1 == y.1
    · rw [if_neg (by simp), Bool.false_or]
    · rw [if_pos rfl, Bool.true_or]
  · rw [Nat.zero_add]
    unfold ref22_light.t0
    dsimp only
    rw [tr_ite, decide_eq_false (by omega), if_neg (by simp), tr_ret]

theorem rlit_eq (l : List LitT) (k : Nat) (nt : Int) (hk : k < l.length) (hl : l.length ≤ 60) : ref22_light (l, (k : Int), nt) = some (mkW (litW nt (l.take k) l[k] ((k + 1 : Nat) : Int))) := by
  obtain ⟨j, hj⟩ := twice_eq l k nt hk hl
  unfold ref22_light ref22_light.t
  dsimp only
  rw [tr_opt, hj, Option.bind_some, tr_ite, if_pos (by rfl), tr_opt]
  dsimp only
  rw [lget_nat l hk, Option.bind_some, tr_ite, W_succ (by omega), tr_ret, tr_opt, Option.bind_some, tr_ite, tr_ret, tr_opt, Option.bind_some, tr_ite, tr_ret, tr_ret]
  unfold litW
  have hin : (decide (l[k].2.1 ≥ 0) && decide (l[k].2.1 ≤ 67108863) && decide (l[k].2.2.1 ≥ 0) && decide (l[k].2.2.1 ≤ 67108863) && decide (l[k].2.2.2 ≥ 0) && decide (l[k].2.2.2 ≤ 67108863)) = in3 l[k].2 0 67108863 := rfl
  rw [hin]
  cases decide (l[k].1 < 0) <;> cases decide (l[k].1 ≥ nt) <;> cases ((l.take k).any fun y => l[k].1 == y.1) <;> cases in3 l[k].2 0 67108863 <;> rfl

theorem rcells_eq (x : ScT) (hx : x.2.2.2.2.1.length ≤ 200) : ref22_rest.l0 (x, (0, 0, 0), 0, ()) =
    some (match firstF (fC x) 0 x.2.2.2.2.1.length with | some (i, w) => (.ret, x, w, (i : Int), ()) | none => (.exit 0, x, (0, 0, 0), (x.2.2.2.2.1.length : Int), ())) :=
  iter_first (t := ref22_rest.t0) (fun k => (x, (0, 0, 0), (k : Int), ())) (fC x) (fun k w => (x, w, (k : Int), ())) (e := .exit 0) (z := (x, (0, 0, 0), (x.2.2.2.2.1.length : Int), ())) (by simp) x.2.2.2.2.1.length 0 rounds
    (fun k _ hk hf => by
      have hlt : k < x.2.2.2.2.1.length := by omega
      unfold fC at hf
      rw [List.getElem?_eq_getElem hlt, Option.bind_some] at hf
      generalize hm : x.2.2.2.2.1[k] = m at hf
      unfold celW at hf
      split at hf
      · cases hf
      rename_i h1
      have h1 : (decide (m.1 ≥ 0) && decide (m.1 ≤ 67108863) && decide (m.2.1 ≥ 0) && decide (m.2.1 ≤ 67108863) && decide (m.2.2 ≥ 0) && decide (m.2.2 ≤ 67108863)) = true := by
        have : in3 m 0 67108863 = true := by simpa using h1
        exact this
      unfold ref22_rest.t0
      dsimp only
      rw [tr_ite, decide_eq_true (by omega), if_pos rfl, tr_opt, lget_nat x.2.2.2.2.1 hlt, Option.bind_some, hm, tr_ite, h1, if_neg (by simp), tr_ret, W_succ (by omega)])
    (fun k w _ hk hf => by
      have hlt : k < x.2.2.2.2.1.length := by omega
      unfold fC at hf
      rw [List.getElem?_eq_getElem hlt, Option.bind_some] at hf
      generalize hm : x.2.2.2.2.1[k] = m at hf
      unfold celW at hf
      split at hf
      · rename_i h1
        cases hf
        have h1 : (decide (m.1 ≥ 0) && decide (m.1 ≤ 67108863) && decide (m.2.1 ≥ 0) && decide (m.2.1 ≤ 67108863) && decide (m.2.2 ≥ 0) && decide (m.2.2 ≤ 67108863)) = false := h1
        unfold ref22_rest.t0
        dsimp only
        rw [tr_ite, decide_eq_true (by omega), if_pos rfl, tr_opt, lget_nat x.2.2.2.2.1 hlt, Option.bind_some, hm, tr_ite, h1, if_pos (by rfl), tr_ret, nn (by omega)]
      · cases hf)
    (by
      rw [Nat.zero_add]
      unfold ref22_rest.t0
      dsimp only
      rw [tr_ite, decide_eq_false (by omega), if_neg (by simp), tr_ret]) (rounds_gt (by omega))

theorem bor_false {a b : Bool} (h : (a && b) = true) : a = true ∧ b = true := by simpa using h

theorem W_sub_zero {a : Int} (h1 : -1048576 ≤ a) (h2 : a ≤ 1048576) : W (a - 0) = a := by rw [Int.sub_zero]; exact W_id (by omega) (by omega)

theorem rest_eq (x : ScT) (hx : x.2.2.2.2.1.length ≤ 200) : ref22_rest x = some (mkW (orElse' (wZ x) (camW x))) := by
  unfold ref22_rest ref22_rest.t wZ
  rw [tr_ite, tr_ret]
  by_cases h1 : decide (x.2.2.2.1 < 0) = true
  · rw [if_pos h1, if_pos h1]; rfl
  rw [if_neg h1, if_neg h1, tr_ite, tr_ret]
  by_cases h2 : ((x.2.2.2.2.1.length : Int) != W (8 * x.2.2.2.1)) = true
  · rw [if_pos h2, if_pos h2]; rfl
  rw [if_neg h2, if_neg h2, tr_opt, rcells_eq x hx, Option.bind_some]
  unfold wC
  cases hf : firstF (fC x) 0 x.2.2.2.2.1.length with
  | some p => rfl
  | none =>
    dsimp only
    rw [tr_ite, if_pos (by rfl)]
    show _ = some (mkW (camW x))
    unfold camW
    dsimp only
    generalize hc : x.2.2.2.2.2.1 = c
    have e1 : (decide (c.1.1 ≥ -1048576) && decide (c.1.1 ≤ 1048576) && decide (c.1.2.1 ≥ -1048576) && decide (c.1.2.1 ≤ 1048576) && decide (c.1.2.2 ≥ -1048576) && decide (c.1.2.2 ≤ 1048576)) = in3 c.1 (-1048576) 1048576 := rfl
    have e2 : (decide (c.2.1.1 ≥ -1048576) && decide (c.2.1.1 ≤ 1048576) && decide (c.2.1.2.1 ≥ -1048576) && decide (c.2.1.2.1 ≤ 1048576) && decide (c.2.1.2.2 ≥ -1048576) && decide (c.2.1.2.2 ≤ 1048576)) = in3 c.2.1 (-1048576) 1048576 := rfl
    have e3 : (decide (c.2.2.1.1 ≥ -1048576) && decide (c.2.2.1.1 ≤ 1048576) && decide (c.2.2.1.2.1 ≥ -1048576) && decide (c.2.2.1.2.1 ≤ 1048576) && decide (c.2.2.1.2.2 ≥ -1048576) && decide (c.2.2.1.2.2 ≤ 1048576)) = in3 c.2.2.1 (-1048576) 1048576 := rfl
    rw [e1, e2, e3, tr_ite, tr_ret, tr_ite, tr_ret, tr_ite, tr_ret, tr_ite, tr_ret, tr_ite, tr_ret, tr_ite, tr_ret, tr_ret]
    cases q1 : in3 c.1 (-1048576) 1048576
    · rfl
    cases q2 : in3 c.2.1 (-1048576) 1048576
    · rfl
    cases q3 : in3 c.2.2.1 (-1048576) 1048576
    · rfl
    have e4 : (!true || decide (c.2.2.2.1 < 1) || decide (c.2.2.2.1 > 1048576) || decide (c.2.2.2.2.1 < 0) || decide (c.2.2.2.2.1 > 1048576) || decide (c.2.2.2.2.2 < 1) || decide (c.2.2.2.2.2 > 1048576)) =
        !(true && true && true && (decide (1 ≤ c.2.2.2.1) && decide (c.2.2.2.1 ≤ 1048576)) && (decide (1 ≤ c.2.2.2.2.2) && decide (c.2.2.2.2.2 ≤ 1048576)) && (decide (0 ≤ c.2.2.2.2.1) && decide (c.2.2.2.2.1 ≤ 1048576))) := by
      rw [Bool.eq_iff_iff]; first | (simp; done) | (simp; omega)
    rw [e4]
    cases (true && true && true && (decide (1 ≤ c.2.2.2.1) && decide (c.2.2.2.1 ≤ 1048576)) && (decide (1 ≤ c.2.2.2.2.2) && decide (c.2.2.2.2.2 ≤ 1048576)) && (decide (0 ≤ c.2.2.2.2.1) && decide (c.2.2.2.2.1 ≤ 1048576)))
    · rfl
    simp only [Bool.not_true, Bool.false_eq_true, if_false, Bool.true_eq_false]
    obtain ⟨⟨a1, a2⟩, ⟨a3, a4⟩, a5, a6⟩ := in3_iff.1 q3
    have e5 : (W (W (c.2.1.2.1 - c.1.2.1) * W (c.2.2.1.2.2 - 0)) == W (W (c.2.1.2.2 - c.1.2.2) * W (c.2.2.1.2.1 - 0)) && W (W (c.2.1.2.2 - c.1.2.2) * W (c.2.2.1.1 - 0)) == W (W (c.2.1.1 - c.1.1) * W (c.2.2.1.2.2 - 0)) && W (W (c.2.1.1 - c.1.1) * W (c.2.2.1.2.1 - 0)) == W (W (c.2.1.2.1 - c.1.2.1) * W (c.2.2.1.1 - 0))) = flatB (lessW c.2.1 c.1) c.2.2.1 := by
      rw [W_sub_zero a1 a2, W_sub_zero a3 a4, W_sub_zero a5 a6, Bool.and_assoc]; rfl
    rw [e5]
    have e6 : (decide (x.2.2.2.2.2.2.2 < 1) || decide (x.2.2.2.2.2.2.2 > 8192)) = !(decide (1 ≤ x.2.2.2.2.2.2.2) && decide (x.2.2.2.2.2.2.2 ≤ 8192)) := by
      rw [Bool.eq_iff_iff]; first | (simp; done) | (simp; omega)
    rw [e6]
    cases flatB (lessW c.2.1 c.1) c.2.2.1 <;> cases (x.2.2.2.2.2.2.1 != 1 && x.2.2.2.2.2.2.1 != 2) <;> cases (decide (1 ≤ x.2.2.2.2.2.2.2) && decide (x.2.2.2.2.2.2.2 ≤ 8192)) <;> rfl

/-! Each fault has a code. -/
def codeOK (w : W3) : Prop := (w.1 = 10 ∨ w.1 = 11) ∧ ¬ (w.2.1 = 0)
theorem matW_ok {m : MatT} {p : Int} {w : W3} (h : matW m p = some w) : codeOK w := by
  unfold matW at h
  split at h
  · cases h; exact ⟨.inl rfl, by simp⟩
  · split at h
    · cases h; exact ⟨.inr rfl, by simp⟩
    · cases h
theorem triW_ok {n : Int} {m : TriT} {p : Int} {w : W3} (h : triW n m p = some w) : codeOK w := by
  unfold triW at h
  split at h
  · cases h; exact ⟨.inr rfl, by simp⟩
  · split at h
    · cases h; exact ⟨.inl rfl, by simp⟩
    · split at h
      · cases h; exact ⟨.inr rfl, by simp⟩
      · cases h
theorem litW_ok {n : Int} {a : List LitT} {m : LitT} {p : Int} {w : W3} (h : litW n a m p = some w) : codeOK w := by
  unfold litW at h
  split at h
  · cases h; exact ⟨.inr rfl, by simp⟩
  · split at h
    · cases h; exact ⟨.inl rfl, by simp⟩
    · cases h
theorem celW_ok {m : W3} {p : Int} {w : W3} (h : celW m p = some w) : codeOK w := by
  unfold celW at h
  split at h
  · cases h; exact ⟨.inl rfl, by simp⟩
  · cases h
theorem camW_ok {x : ScT} {w : W3} (h : camW x = some w) : codeOK w := by
  unfold camW at h
  dsimp only at h
  split at h
  · cases h; exact ⟨.inl rfl, by simp⟩
  · split at h
    · cases h; exact ⟨.inr rfl, by simp⟩
    · split at h
      · cases h; exact ⟨.inr rfl, by simp⟩
      · split at h
        · cases h; exact ⟨.inl rfl, by simp⟩
        · cases h

theorem codeOK.zero {w : W3} (h : codeOK w) : (w.1 == 0 && (w.2.1 == 0 && w.2.2 == 0)) = false := by
  obtain ⟨h1 | h1, _⟩ := h <;> rw [h1] <;> rfl

theorem codeOK.go {w : W3} (h : codeOK w) : (!((mkW (some w)).1 == 0 && ((mkW (some w)).2.1 == 0 && (mkW (some w)).2.2 == 0))) = true := by
  have := h.zero
  show (!(w.1 == 0 && (w.2.1 == 0 && w.2.2 == 0))) = true
  rw [this]; rfl

theorem fM_ok {x : ScT} {k : Nat} {w : W3} (h : fM x k = some w) : codeOK w := by
  unfold fM at h; rw [Option.bind_eq_some_iff] at h; obtain ⟨m, _, h⟩ := h; exact matW_ok h
theorem fT_ok {x : ScT} {k : Nat} {w : W3} (h : fT x k = some w) : codeOK w := by
  unfold fT at h; rw [Option.bind_eq_some_iff] at h; obtain ⟨m, _, h⟩ := h; exact triW_ok h
theorem fL_ok {x : ScT} {k : Nat} {w : W3} (h : fL x k = some w) : codeOK w := by
  unfold fL at h; rw [Option.bind_eq_some_iff] at h; obtain ⟨m, _, h⟩ := h; exact litW_ok h
theorem fC_ok {x : ScT} {k : Nat} {w : W3} (h : fC x k = some w) : codeOK w := by
  unfold fC at h; rw [Option.bind_eq_some_iff] at h; obtain ⟨m, _, h⟩ := h; exact celW_ok h

theorem first_ok {f : Nat → Option W3} {n : Nat} {w : W3} (hf : ∀ {k w}, f k = some w → codeOK w) (h : (firstF f 0 n).map (·.2) = some w) : codeOK w := by
  rw [Option.map_eq_some_iff] at h
  obtain ⟨⟨i, v⟩, h1, rfl⟩ := h
  exact hf (firstF_some h1).2.2

theorem wr_ok {x : ScT} {w : W3} (h : wr x = some w) : codeOK w := by
  unfold wr at h
  split at h
  · cases h; exact ⟨.inl rfl, by simp⟩
  have ho : ∀ {a b : Option W3}, orElse' a b = some w → a = some w ∨ b = some w := by
    intro a b h; cases a with
    | some v => exact .inl h
    | none => exact .inr h
  rcases ho h with h | h
  · exact first_ok fM_ok h
  rcases ho h with h | h
  · exact first_ok fT_ok h
  rcases ho h with h | h
  · rcases ho h with h | h
    · exact first_ok fL_ok h
    · unfold wZ at h
      split at h
      · cases h; exact ⟨.inl rfl, by simp⟩
      · split at h
        · cases h; exact ⟨.inr rfl, by simp⟩
        · exact first_ok fC_ok h
  · exact camW_ok h

theorem rmats (x : ScT) (hx : x.1.length ≤ 40) : ref22_Check.l0 (x, (0, 0, 0), 0, ()) =
    some (match firstF (fM x) 0 x.1.length with | some (i, w) => (.ret, x, w, (i : Int), ()) | none => (.exit 0, x, (0, 0, 0), (x.1.length : Int), ())) :=
  iter_first (t := ref22_Check.t0) (fun k => (x, (0, 0, 0), (k : Int), ())) (fM x) (fun k w => (x, w, (k : Int), ())) (e := .exit 0) (z := (x, (0, 0, 0), (x.1.length : Int), ())) (by simp) x.1.length 0 rounds
    (fun k _ hk hf => by
      have hlt : k < x.1.length := by omega
      unfold fM at hf
      rw [List.getElem?_eq_getElem hlt, Option.bind_some] at hf
      unfold ref22_Check.t0
      dsimp only
      rw [tr_ite, decide_eq_true (by omega), if_pos rfl, tr_opt, lget_nat x.1 hlt, Option.bind_some, nn (by omega), tr_opt, rmat_eq, hf, Option.bind_some, tr_ite, if_neg (by simp [mkW]), tr_ret])
    (fun k w _ hk hf => by
      have hlt : k < x.1.length := by omega
      have hok := fM_ok hf
      unfold fM at hf
      rw [List.getElem?_eq_getElem hlt, Option.bind_some] at hf
      unfold ref22_Check.t0
      dsimp only
      rw [tr_ite, decide_eq_true (by omega), if_pos rfl, tr_opt, lget_nat x.1 hlt, Option.bind_some, nn (by omega), tr_opt, rmat_eq, hf, Option.bind_some, tr_ite, if_pos (hok.go)]; rfl)
    (by
      rw [Nat.zero_add]
      unfold ref22_Check.t0
      dsimp only
      rw [tr_ite, decide_eq_false (by omega), if_neg (by simp), tr_ret]) (rounds_gt (by omega))

theorem rtris (x : ScT) (hx : x.2.1.length ≤ 60) : ref22_Check.l2 (x, (0, 0, 0), 0, ()) =
    some (match firstF (fT x) 0 x.2.1.length with | some (i, w) => (.ret, x, w, (i : Int), ()) | none => (.exit 2, x, (0, 0, 0), (x.2.1.length : Int), ())) :=
  iter_first (t := ref22_Check.t2) (fun k => (x, (0, 0, 0), (k : Int), ())) (fT x) (fun k w => (x, w, (k : Int), ())) (e := .exit 2) (z := (x, (0, 0, 0), (x.2.1.length : Int), ())) (by simp) x.2.1.length 0 rounds
    (fun k _ hk hf => by
      have hlt : k < x.2.1.length := by omega
      unfold fT at hf
      rw [List.getElem?_eq_getElem hlt, Option.bind_some] at hf
      unfold ref22_Check.t2
      dsimp only
      rw [tr_ite, decide_eq_true (by omega), if_pos rfl, tr_opt, lget_nat x.2.1 hlt, Option.bind_some, nn (by omega), tr_opt, rtri_eq, hf, Option.bind_some, tr_ite, if_neg (by simp [mkW]), tr_ret])
    (fun k w _ hk hf => by
      have hlt : k < x.2.1.length := by omega
      have hok := fT_ok hf
      unfold fT at hf
      rw [List.getElem?_eq_getElem hlt, Option.bind_some] at hf
      unfold ref22_Check.t2
      dsimp only
      rw [tr_ite, decide_eq_true (by omega), if_pos rfl, tr_opt, lget_nat x.2.1 hlt, Option.bind_some, nn (by omega), tr_opt, rtri_eq, hf, Option.bind_some, tr_ite, if_pos (hok.go)]; rfl)
    (by
      rw [Nat.zero_add]
      unfold ref22_Check.t2
      dsimp only
      rw [tr_ite, decide_eq_false (by omega), if_neg (by simp), tr_ret]) (rounds_gt (by omega))

theorem rlits (x : ScT) (hx : x.2.2.1.length ≤ 60) : ref22_Check.l4 (x, (0, 0, 0), 0, ()) =
    some (match firstF (fL x) 0 x.2.2.1.length with | some (i, w) => (.ret, x, w, (i : Int), ()) | none => (.exit 4, x, (0, 0, 0), (x.2.2.1.length : Int), ())) :=
  iter_first (t := ref22_Check.t4) (fun k => (x, (0, 0, 0), (k : Int), ())) (fL x) (fun k w => (x, w, (k : Int), ())) (e := .exit 4) (z := (x, (0, 0, 0), (x.2.2.1.length : Int), ())) (by simp) x.2.2.1.length 0 rounds
    (fun k _ hk hf => by
      have hlt : k < x.2.2.1.length := by omega
      unfold fL at hf
      rw [List.getElem?_eq_getElem hlt, Option.bind_some] at hf
      unfold ref22_Check.t4
      dsimp only
      rw [tr_ite, decide_eq_true (by omega), if_pos rfl, tr_opt, rlit_eq _ _ _ hlt hx, hf, Option.bind_some, tr_ite, if_neg (by simp [mkW]), tr_ret, W_succ (by omega)])
    (fun k w _ hk hf => by
      have hlt : k < x.2.2.1.length := by omega
      have hok := fL_ok hf
      unfold fL at hf
      rw [List.getElem?_eq_getElem hlt, Option.bind_some] at hf
      unfold ref22_Check.t4
      dsimp only
      rw [tr_ite, decide_eq_true (by omega), if_pos rfl, tr_opt, rlit_eq _ _ _ hlt hx, hf, Option.bind_some, tr_ite, if_pos (hok.go)]; rfl)
    (by
      rw [Nat.zero_add]
      unfold ref22_Check.t4
      dsimp only
      rw [tr_ite, decide_eq_false (by omega), if_neg (by simp), tr_ret]) (rounds_gt (by omega))

theorem RCheck_eq (x : ScT) (h : lightB x) : ref22_Check x = some (mkW (wr x)) := by
  obtain ⟨h1, h2, h3, h4⟩ := h
  unfold ref22_Check ref22_Check.t wr
  rw [tr_ite, tr_ret]
  have hbb : (decide ((x.1.length : Int) > 32) || decide ((x.2.1.length : Int) > 512) || decide ((x.2.2.1.length : Int) > 512) || decide (x.2.2.2.1 > 16)) = bigB x := rfl
  rw [hbb]
  by_cases hbig : bigB x = true
  · rw [if_pos hbig, if_pos hbig]; rfl
  rw [if_neg hbig, if_neg hbig, tr_opt, rmats x h1, Option.bind_some]
  unfold wM
  cases e1 : firstF (fM x) 0 x.1.length with
  | some p => rfl
  | none =>
    dsimp only
    rw [tr_ite, if_pos (by rfl), tr_opt, rtris x h2, Option.bind_some]
    unfold wT
    cases e2 : firstF (fT x) 0 x.2.1.length with
    | some p => rfl
    | none =>
      dsimp only
      rw [tr_ite, if_pos (by rfl), tr_opt, rlits x h3, Option.bind_some]
      unfold wL
      cases e3 : firstF (fL x) 0 x.2.2.1.length with
      | some p => rfl
      | none =>
        dsimp only
        rw [tr_ite, if_pos (by rfl), tr_opt, rest_eq x h4, Option.bind_some, tr_ret]
        rfl

/-! ### The law -/
theorem mkErr_mkR (w : W3) : mkErr (some w) = mkR [(w.1, 0), (w.2.1, w.2.2)] := rfl

theorem sceneChecks_eq (x : ScT) : (law22_SceneChecks.t x).run = some true := by
  unfold law22_SceneChecks.t
  rw [tr_ite, tr_ret]
  by_cases hl : lightB x
  · have h0 := hl
    obtain ⟨h1, h2, h3, h4⟩ := h0
    rw [decide_eq_true (by omega), decide_eq_true (by omega), decide_eq_true (by omega), decide_eq_true (by omega), if_neg (by simp), tr_opt, Check_eq x hl, Option.bind_some, tr_opt, RCheck_eq x hl, Option.bind_some, tr_ite]
    cases hw : wr x with
    | none => rfl
    | some w =>
      have hok := wr_ok hw
      rw [if_neg (by have := hok.zero; show ¬ (w.1 == 0 && (w.2.1 == 0 && w.2.2 == 0)) = true; rw [this]; simp), tr_ite, mkErr_nil, if_pos (by rfl)]
      dsimp only [mkW]
      have ht : (mkErr (some w)).top = w.1 := rfl
      have hi : fault_Is (mkErr (some w), w.2.1) = some true := by
        rw [mkErr_mkR, Is_eq _ _ (by rw [depth_mkR]; simp), has_mkR]
        simp
      have hL : fault_Line (mkErr (some w)) = some w.2.2 := by
        rw [mkErr_mkR, Line_eq _ (by simp)]
        simp only [lineR, if_true]
        split
        · rename_i h; rw [h]
        · rfl
      have hC : fault_Chain (mkErr (some w)) = some [w.1, w.2.1] := by
        rw [mkErr_mkR, Chain_eq _ (by simp)]; rfl
      have hE : ref01_Errs ([w.1, w.2.1], List.take 2 [w.1, w.2.1]) = some true := errs_self [w.1, w.2.1] (by simp)
      rw [tr_yes (by rw [ht]; exact beq_self_eq_true w.1), tr_opt, hi, Option.bind_some, tr_yes rfl, tr_opt, hL, Option.bind_some, tr_yes (beq_self_eq_true w.2.2), tr_opt, hC, Option.bind_some, tr_opt, hE, Option.bind_some, tr_ret]
  · rw [if_pos]
    have hcond : (decide ((x.1.length : Int) ≤ 40) && decide ((x.2.1.length : Int) ≤ 60) && decide ((x.2.2.1.length : Int) ≤ 60) && decide ((x.2.2.2.2.1.length : Int) ≤ 200)) = false := by
      rw [Bool.eq_false_iff]
      intro hc
      simp only [Bool.and_eq_true, decide_eq_true_eq] at hc
      exact hl ⟨by omega, by omega, by omega, by omega⟩
    rw [hcond]; rfl

theorem sceneChecks_plain (x : dens [TScn]) (_ : insAll [TScn] x) : (law22_SceneChecks.t x).run = some true := sceneChecks_eq x
end Go.Proofs.Pen
