/- A part of the proof that the law MeshJoins is true of every input: models of the functions that the law reaches, and what holds of them. -/
import Derived.Test.YtdcdmooafepbiaaPenKit0
import Derived.Test.YtdcdmooafepbiaaPenKit1
import Derived.Test.YtdcdmooafepbiaaPenKit2
import Derived.Test.YtdcdmooafepbiaaPenKit3
import Derived.Test.YtdcdmooafepbiaaPenMeshJoins4
namespace Go.Proofs.Pen
open Go Go.Proofs
def law45_MeshJoins.L0 : List (Nat × Lay) := [(2, .box TMesh), (3, .box TMesh), (4, .val .bool), (5, .box TMesh), (8, .val TI), (9, .val TI)]
noncomputable def law45_MeshJoins.t0 (x : ((List (Int × Int × Int)) × List (Int × Int × Int)) × ((List (Int × Int × Int)) × List (Int × Int × Int)) × Bool × ((List (Int × Int × Int)) × List (Int × Int × Int)) × Int × Int × Unit) : T (Ex × ((List (Int × Int × Int)) × List (Int × Int × Int)) × ((List (Int × Int × Int)) × List (Int × Int × Int)) × Bool × ((List (Int × Int × Int)) × List (Int × Int × Int)) × Int × Int × Unit) := T.ite (decide (x.2.2.2.2.2.1 < (↑(List.length x.2.2.2.1.1) : Int))) (T.ite (decide (x.2.2.2.2.2.1 < x.2.2.2.2.1)) (T.opt (lget x.2.2.2.1.1 x.2.2.2.2.2.1) fun y => T.opt (lget x.1.1 x.2.2.2.2.2.1) fun y_1 => T.ite (!!(y.1 == y_1.fst && (y.2.1 == y_1.snd.fst && y.2.2 == y_1.snd.snd))) (T.ite (decide (x.2.2.2.2.2.1 ≥ x.2.2.2.2.1)) (T.opt (lget x.2.2.2.1.1 x.2.2.2.2.2.1) fun y => T.opt (lget x.2.1.1 (W (x.2.2.2.2.2.1 - x.2.2.2.2.1))) fun y_2 => T.ite (!(y.1 == y_2.fst && (y.2.1 == y_2.snd.fst && y.2.2 == y_2.snd.snd))) (T.ret (Ex.ret, x.1, x.2.1, false, x.2.2.2.1, x.2.2.2.2.1, x.2.2.2.2.2.1, ())) (T.ret (Ex.normal, x.1, x.2.1, x.2.2.1, x.2.2.2.1, x.2.2.2.2.1, W (x.2.2.2.2.2.1 + (1 : Int)), ()))) (T.ret (Ex.normal, x.1, x.2.1, x.2.2.1, x.2.2.2.1, x.2.2.2.2.1, W (x.2.2.2.2.2.1 + (1 : Int)), ()))) (T.ret (Ex.ret, x.1, x.2.1, false, x.2.2.2.1, x.2.2.2.2.1, x.2.2.2.2.2.1, ()))) (T.ite (decide (x.2.2.2.2.2.1 ≥ x.2.2.2.2.1)) (T.opt (lget x.2.2.2.1.1 x.2.2.2.2.2.1) fun y => T.opt (lget x.2.1.1 (W (x.2.2.2.2.2.1 - x.2.2.2.2.1))) fun y_1 => T.ite (!(y.1 == y_1.fst && (y.2.1 == y_1.snd.fst && y.2.2 == y_1.snd.snd))) (T.ret (Ex.ret, x.1, x.2.1, false, x.2.2.2.1, x.2.2.2.2.1, x.2.2.2.2.2.1, ())) (T.ret (Ex.normal, x.1, x.2.1, x.2.2.1, x.2.2.2.1, x.2.2.2.2.1, W (x.2.2.2.2.2.1 + (1 : Int)), ()))) (T.ret (Ex.normal, x.1, x.2.1, x.2.2.1, x.2.2.2.1, x.2.2.2.2.1, W (x.2.2.2.2.2.1 + (1 : Int)), ())))) (T.ret (Ex.exit (0 : Nat), x.1, x.2.1, x.2.2.1, x.2.2.2.1, x.2.2.2.2.1, x.2.2.2.2.2.1, ()))
noncomputable def law45_MeshJoins.l0 (x : ((List (Int × Int × Int)) × List (Int × Int × Int)) × ((List (Int × Int × Int)) × List (Int × Int × Int)) × Bool × ((List (Int × Int × Int)) × List (Int × Int × Int)) × Int × Int × Unit) : Option (Ex × ((List (Int × Int × Int)) × List (Int × Int × Int)) × ((List (Int × Int × Int)) × List (Int × Int × Int)) × Bool × ((List (Int × Int × Int)) × List (Int × Int × Int)) × Int × Int × Unit) := (iterT law45_MeshJoins.t0 rounds x).run
theorem law45_MeshJoins.k0 : bodies 0 (lp Try.f7 []) = [.loop (loopIn 0 (lp Try.f7 []))] ∧ WP Try.prog 0 (.block 0 (.loop (loopIn 0 (lp Try.f7 [])))) (loopS law45_MeshJoins.L0 170 0 [.exit 0, .ret] law45_MeshJoins.l0) :=
  loop_tree (L := law45_MeshJoins.L0) (F := ({ quiet := (ext (ext (ext (ext (ext Xs 19 law45_light.q) 20 law45_awake.q) 34 mesh_Join.q) 21 ref45_Check.q) 24 mesh_Closed.q), deep := noDeep } : Fns)) (D := D0) (tab := []) (t := law45_MeshJoins.t0) mixed (quiet_ext (quiet_ext (quiet_ext (quiet_ext (quiet_ext Xok law45_light.ok) law45_awake.ok) mesh_Join.ok) ref45_Check.ok) mesh_Closed.ok) (deep_none _) (fun _ => rfl) (by kernel_rfl) (by kernel_rfl) trivial (fun x => by kernel_rfl)
def law45_MeshJoins.L2 : List (Nat × Lay) := [(2, .box TMesh), (3, .box TMesh), (4, .val .bool), (5, .box TMesh), (8, .val TI), (10, .val TI)]
noncomputable def law45_MeshJoins.t2 (x : ((List (Int × Int × Int)) × List (Int × Int × Int)) × ((List (Int × Int × Int)) × List (Int × Int × Int)) × Bool × ((List (Int × Int × Int)) × List (Int × Int × Int)) × Int × Int × Unit) : T (Ex × ((List (Int × Int × Int)) × List (Int × Int × Int)) × ((List (Int × Int × Int)) × List (Int × Int × Int)) × Bool × ((List (Int × Int × Int)) × List (Int × Int × Int)) × Int × Int × Unit) := T.ite (decide (x.2.2.2.2.2.1 < (↑(List.length x.2.1.2) : Int))) (T.opt (lget x.2.1.2 x.2.2.2.2.2.1) fun y => T.opt (lget x.2.2.2.1.2 (W ((↑(List.length x.1.2) : Int) + x.2.2.2.2.2.1))) fun y_1 => T.ite (!(y_1.fst == W (y.1 + x.2.2.2.2.1) && (y_1.snd.fst == W (y.2.1 + x.2.2.2.2.1) && y_1.snd.snd == W (y.2.2 + x.2.2.2.2.1)))) (T.ret (Ex.ret, x.1, x.2.1, false, x.2.2.2.1, x.2.2.2.2.1, x.2.2.2.2.2.1, ())) (T.ret (Ex.normal, x.1, x.2.1, x.2.2.1, x.2.2.2.1, x.2.2.2.2.1, W (x.2.2.2.2.2.1 + (1 : Int)), ()))) (T.ret (Ex.exit (2 : Nat), x.1, x.2.1, x.2.2.1, x.2.2.2.1, x.2.2.2.2.1, x.2.2.2.2.2.1, ()))
noncomputable def law45_MeshJoins.l2 (x : ((List (Int × Int × Int)) × List (Int × Int × Int)) × ((List (Int × Int × Int)) × List (Int × Int × Int)) × Bool × ((List (Int × Int × Int)) × List (Int × Int × Int)) × Int × Int × Unit) : Option (Ex × ((List (Int × Int × Int)) × List (Int × Int × Int)) × ((List (Int × Int × Int)) × List (Int × Int × Int)) × Bool × ((List (Int × Int × Int)) × List (Int × Int × Int)) × Int × Int × Unit) := (iterT law45_MeshJoins.t2 rounds x).run
theorem law45_MeshJoins.k2 : bodies 2 (lp Try.f7 []) = [.loop (loopIn 2 (lp Try.f7 []))] ∧ WP Try.prog 0 (.block 2 (.loop (loopIn 2 (lp Try.f7 [])))) (loopS law45_MeshJoins.L2 170 2 [.exit 2, .ret] law45_MeshJoins.l2) :=
  loop_tree (L := law45_MeshJoins.L2) (F := ({ quiet := (ext (ext (ext (ext (ext Xs 19 law45_light.q) 20 law45_awake.q) 34 mesh_Join.q) 21 ref45_Check.q) 24 mesh_Closed.q), deep := noDeep } : Fns)) (D := D0) (tab := []) (t := law45_MeshJoins.t2) mixed (quiet_ext (quiet_ext (quiet_ext (quiet_ext (quiet_ext Xok law45_light.ok) law45_awake.ok) mesh_Join.ok) ref45_Check.ok) mesh_Closed.ok) (deep_none _) (fun _ => rfl) (by kernel_rfl) (by kernel_rfl) trivial (fun x => by kernel_rfl)
noncomputable def law45_MeshJoins.t (x : ((List (Int × Int × Int)) × List (Int × Int × Int)) × ((List (Int × Int × Int)) × List (Int × Int × Int))) : T (Bool) := T.ite (!(decide ((↑x.1.1.length : Int) ≤ (40 : Int)) && decide ((↑x.1.2.length : Int) ≤ (60 : Int)))) (T.ret true) (T.ite (!(decide ((↑x.2.1.length : Int) ≤ (40 : Int)) && decide ((↑x.2.2.length : Int) ≤ (60 : Int)))) (T.ret true) (T.opt (mesh_Join x) fun y => T.opt (ref45_Check x.1) fun y_1 => T.ite (y_1 == (0 : Int)) (T.opt (ref45_Check x.2) fun y_2 => T.ite (y_2 != (0 : Int)) (T.ret (W ((↑(List.length y.1.1) : Int) + (↑(List.length y.1.2) : Int)) == (0 : Int) && y.2 == y_2)) (T.ite (y.2 != (0 : Int) || (↑(List.length y.1.1) : Int) != W ((↑(List.length x.1.1) : Int) + (↑(List.length x.2.1) : Int)) || (↑(List.length y.1.2) : Int) != W ((↑(List.length x.1.2) : Int) + (↑(List.length x.2.2) : Int))) (T.ret false) (T.opt (law45_MeshJoins.l0 (x.1, x.2, false, y.1, (↑(List.length x.1.1) : Int), (0 : Int), ())) fun y => T.ite (exEq y.1 (Ex.exit (0 : Nat))) (T.opt (law45_MeshJoins.l2 (y.2.1, y.2.2.1, y.2.2.2.1, y.2.2.2.2.1, y.2.2.2.2.2.1, (0 : Int), ())) fun y => T.ite (exEq y.1 (Ex.exit (2 : Nat))) (T.ite true (T.opt (mesh_Closed y.2.2.2.2.1) fun y_3 => T.opt (mesh_Closed y.2.1) fun y_4 => T.ite y_4 (T.opt (mesh_Closed y.2.2.1) fun y => T.ret (y_3 == y)) (T.ret (y_3 == false))) (T.ret false)) (T.ite (exEq y.1 Ex.ret) (T.ret y.2.2.2.1) T.fail)) (T.ite (exEq y.1 Ex.ret) (T.ret y.2.2.2.1) T.fail)))) (T.ite (y_1 != (0 : Int)) (T.ret (W ((↑(List.length y.1.1) : Int) + (↑(List.length y.1.2) : Int)) == (0 : Int) && y.2 == y_1)) (T.ite (y.2 != (0 : Int) || (↑(List.length y.1.1) : Int) != W ((↑(List.length x.1.1) : Int) + (↑(List.length x.2.1) : Int)) || (↑(List.length y.1.2) : Int) != W ((↑(List.length x.1.2) : Int) + (↑(List.length x.2.2) : Int))) (T.ret false) (T.opt (law45_MeshJoins.l0 (x.1, x.2, false, y.1, (↑(List.length x.1.1) : Int), (0 : Int), ())) fun y => T.ite (exEq y.1 (Ex.exit (0 : Nat))) (T.opt (law45_MeshJoins.l2 (y.2.1, y.2.2.1, y.2.2.2.1, y.2.2.2.2.1, y.2.2.2.2.2.1, (0 : Int), ())) fun y => T.ite (exEq y.1 (Ex.exit (2 : Nat))) (T.ite true (T.opt (mesh_Closed y.2.2.2.2.1) fun y_2 => T.opt (mesh_Closed y.2.1) fun y_3 => T.ite y_3 (T.opt (mesh_Closed y.2.2.1) fun y => T.ret (y_2 == y)) (T.ret (y_2 == false))) (T.ret false)) (T.ite (exEq y.1 Ex.ret) (T.ret y.2.2.2.1) T.fail)) (T.ite (exEq y.1 Ex.ret) (T.ret y.2.2.2.1) T.fail))))))
noncomputable def law45_MeshJoins (x : ((List (Int × Int × Int)) × List (Int × Int × Int)) × ((List (Int × Int × Int)) × List (Int × Int × Int))) : Option (Bool) := (law45_MeshJoins.t x).run
noncomputable def law45_MeshJoins.q : List AV → T AV := entry [TMesh, TMesh] (outR [.bool]) fun x => .opt (law45_MeshJoins x) .ret
theorem law45_MeshJoins.ok : FnOK Try.prog 7 law45_MeshJoins.q :=
  entry_call (ps := [TMesh, TMesh]) (rs := [.bool]) (F := ({ quiet := (ext (ext (ext (ext (ext Xs 19 law45_light.q) 20 law45_awake.q) 34 mesh_Join.q) 21 ref45_Check.q) 24 mesh_Closed.q), deep := noDeep } : Fns)) (D := D0) (S := tabS [(0, loopS law45_MeshJoins.L0 170 0 [.exit 0, .ret] law45_MeshJoins.l0), (2, loopS law45_MeshJoins.L2 170 2 [.exit 2, .ret] law45_MeshJoins.l2)]) (t := law45_MeshJoins.t) mixed (quiet_ext (quiet_ext (quiet_ext (quiet_ext (quiet_ext Xok law45_light.ok) law45_awake.ok) mesh_Join.ok) ref45_Check.ok) mesh_Closed.ok) (deep_none _) Try.func7 (by kernel_rfl) (sok_fn ⟨law45_MeshJoins.k0, law45_MeshJoins.k2, trivial⟩) (by kernel_rfl) (fun x => by kernel_rfl)
end Go.Proofs.Pen

namespace Go.Proofs.Pen
open Go Go.Proofs Mp

def shF (n : Int) (f : P3) : P3 := (f.1 + n, f.2.1 + n, f.2.2 + n)
def joined (a b : Msh) : Msh := (a.1 ++ b.1, a.2 ++ b.2.map (shF a.1.length))

theorem gp_left {ps qs : List P3} {i : Int} (_ : 0 ≤ i) (h1 : i < ps.length) : gp (ps ++ qs) i = gp ps i := by
  unfold gp
  rw [List.getD_eq_getElem?_getD, List.getD_eq_getElem?_getD, List.getElem?_append_left (by omega)]
theorem gp_right {ps qs : List P3} {i : Int} (h0 : 0 ≤ i) : gp (ps ++ qs) (i + ps.length) = gp qs i := by
  unfold gp
  rw [List.getD_eq_getElem?_getD, List.getD_eq_getElem?_getD, List.getElem?_append_right (by omega)]
  congr 2
  omega

theorem chk_joined {a b : Msh} (ha : chk a = 0) (hb : chk b = 0) (h1 : a.2.length + b.2.length ≤ 512) (h2 : a.1.length + b.1.length ≤ 1024) : chk (joined a b) = 0 := by
  obtain ⟨_, _, a3, a4, a5⟩ := chk_zero.1 ha
  obtain ⟨_, _, b3, b4, b5⟩ := chk_zero.1 hb
  refine chk_zero.2 ⟨by simp [joined]; omega, by simp [joined]; omega, by simp only [joined, List.all_append, a3, b3, Bool.and_self], ?_, ?_⟩
  · show ((a.2 ++ b.2.map _).all (plB ((a.1 ++ b.1).length : Int))) = true
    rw [List.all_append, List.all_map, Bool.and_eq_true, List.all_eq_true, List.all_eq_true]
    constructor
    · intro f hf
      have hp : pl a.1.length f := of_decide_eq_true (List.all_eq_true.1 a4 _ hf)
      unfold pl at hp
      refine decide_eq_true ?_
      unfold pl
      rw [List.length_append]
      omega
    · intro f hf
      have hp : pl b.1.length f := of_decide_eq_true (List.all_eq_true.1 b4 _ hf)
      unfold pl at hp
      refine decide_eq_true ?_
      unfold pl shF
      rw [List.length_append]
      dsimp only
      omega
  · show ((a.2 ++ b.2.map _).all fun f => !flB (a.1 ++ b.1) f) = true
    rw [List.all_append, List.all_map, Bool.and_eq_true, List.all_eq_true, List.all_eq_true]
    constructor
    · intro f hf
      have hp : pl a.1.length f := of_decide_eq_true (List.all_eq_true.1 a4 _ hf)
      unfold pl at hp
      have := List.all_eq_true.1 a5 _ hf
      unfold flB fl at this ⊢
      rw [gp_left (by omega) (by omega), gp_left (by omega) (by omega), gp_left (by omega) (by omega)]
      exact this
    · intro f hf
      have hp : pl b.1.length f := of_decide_eq_true (List.all_eq_true.1 b4 _ hf)
      unfold pl at hp
      have := List.all_eq_true.1 b5 _ hf
      unfold flB fl at this
      simp only [Function.comp]
      unfold flB fl shF
      dsimp only
      rw [gp_right (by omega), gp_right (by omega), gp_right (by omega)]
      exact this

theorem Join_eq {a b : Msh} (h1 : a.2.length + b.2.length ≤ 512) (h2 : a.1.length + b.1.length ≤ 1024) :
    mesh_Join (a, b) = some (if chk a ≠ 0 then (([], []), chk a) else if chk b ≠ 0 then (([], []), chk b) else (joined a b, 0)) := by
  unfold mesh_Join mesh_Join.t
  rw [tr_opt, mesh_Check_eq, Option.bind_some, tr_ite]
  by_cases ha : chk a = 0
  case neg => rw [if_pos (by simpa using ha), if_pos ha, tr_ret]
  rw [if_neg (by simpa using ha), if_neg (by simpa using ha), tr_opt, mesh_Check_eq, Option.bind_some, tr_ite]
  by_cases hb : chk b = 0
  case neg => rw [if_pos (by simpa using hb), if_pos hb, tr_ret]
  rw [if_neg (by simpa using hb), if_neg (by simpa using hb)]
  obtain ⟨_, _, a3, a4, a5⟩ := chk_zero.1 ha
  obtain ⟨_, _, b3, b4, b5⟩ := chk_zero.1 hb
  dsimp only
  have et : List.take ((a.1.length : Int).toNat - Int.toNat 0) (List.drop (Int.toNat 0) a.1) = a.1 := by simp
  rw [tr_ite, if_pos (by simp), tr_ite, if_pos (by simp), et, tr_ite, if_pos (by unfold most; simp; omega), tr_ite, if_pos (by unfold most; simp; omega), List.take_length, tr_opt]
  have e0 : ∀ y, mesh_Join.l0 y = (iterT mesh_Join.t0 rounds y).run := fun _ => rfl
  have s0 := iter_count (t := mesh_Join.t0) (fun k => (([], []), (a.1.length : Int), (a.1 ++ b.1, a.2 ++ (b.2.take k).map (shF a.1.length), ()), b.2, (b.2.length : Int), (k : Int), ())) (e := .exit 0)
    (z := (([], []), (a.1.length : Int), (a.1 ++ b.1, a.2 ++ (b.2.take b.2.length).map (shF a.1.length), ()), b.2, (b.2.length : Int), (b.2.length : Int), ())) (by simp) b.2.length 0 rounds
    (fun k _ hk => by
      have hk : k < b.2.length := by omega
      have hp : pl b.1.length b.2[k] := of_decide_eq_true (List.all_eq_true.1 b4 _ (List.getElem_mem hk))
      unfold pl at hp
      have hlen : (a.2 ++ (b.2.take k).map (shF a.1.length)).length = a.2.length + k := by rw [List.length_append, List.length_map, List.length_take]; omega
      unfold mesh_Join.t0
      simp only [tr_ite, tr_ret, tr_opt, decide_eq_true_eq]
      rw [if_pos (by omega), lget_nat b.2 hk, Option.bind_some, if_pos (by rw [hlen]; exact room (by omega) (by omega)), W_succ (by omega), take_all, map_take _ _ hk,
        W_id (n := b.2[k].1 + _) (by omega) (by omega), W_id (n := b.2[k].2.1 + _) (by omega) (by omega), W_id (n := b.2[k].2.2 + _) (by omega) (by omega), List.append_assoc]
      rfl)
    (by
      unfold mesh_Join.t0
      simp only [tr_ite, tr_ret, decide_eq_true_eq]
      rw [if_neg (by omega), Nat.zero_add, List.take_length, List.take_length])
    (rounds_gt (by omega))
  have z : ((0 : Nat) : Int) = 0 := rfl
  simp only [z, List.take_zero, List.map_nil, List.append_nil, List.take_length] at s0
  rw [e0, s0, Option.bind_some]
  dsimp only
  rw [tr_ite, if_pos (show exEq (.exit 0) (.exit 0) = true from rfl), tr_opt, List.take_length, mesh_Check_eq, Option.bind_some]
  have := chk_joined ha hb h1 h2
  unfold joined at this
  rw [this]
  rfl

/-! ### Closed, of what is joined -/
theorem sidesL_append (x y : List P3) : sidesL (x ++ y) = sidesL x ++ sidesL y := by simp [sidesL]
def shS (n : Int) (s : Int × Int) : Int × Int := (s.1 + n, s.2 + n)
theorem sidesL_sh (n : Int) (l : List P3) : sidesL (l.map (shF n)) = (sidesL l).map (shS n) := by
  induction l with
  | nil => rfl
  | cons f l ih =>
    show sidesOf (shF n f) ++ sidesL (l.map (shF n)) = _
    rw [ih]
    show _ = (sidesOf f ++ sidesL l).map (shS n)
    rw [List.map_append]
    rfl
theorem count_sh (n : Int) (s : Int × Int) : ∀ l : List (Int × Int), (l.map (shS n)).count (shS n s) = l.count s
  | [] => rfl
  | t :: l => by
    rw [List.map_cons, List.count_cons, List.count_cons, count_sh n s l]
    congr 1
    have : (shS n t == shS n s) = (t == s) := by
      obtain ⟨a, b⟩ := s
      obtain ⟨c, d⟩ := t
      rw [Bool.eq_iff_iff]
      simp only [shS, beq_iff_eq, Prod.mk.injEq]
      omega
    rw [this]

theorem all_congr' {α : Type} {l : List α} {p q : α → Bool} (h : ∀ x ∈ l, p x = q x) : l.all p = l.all q := by
  rw [Bool.eq_iff_iff, List.all_eq_true, List.all_eq_true]
  exact ⟨fun k x hx => (h x hx) ▸ k x hx, fun k x hx => (h x hx).symm ▸ k x hx⟩

theorem closed_joined {a b : Msh} (h1 : a.2.all (plB a.1.length) = true) (h2 : b.2.all (plB b.1.length) = true) : closedB (joined a b).2 = (closedB a.2 && closedB b.2) := by
  unfold joined closedB
  dsimp only
  rw [sidesL_append, sidesL_sh, List.all_append, List.all_map]
  have i1 := sides_in h1
  have i2 := sides_in h2
  have z1 : ∀ s : Int × Int, s.1 < a.1.length → ((sidesL b.2).map (shS a.1.length)).count s = 0 := fun s hs => List.count_eq_zero.2 fun hm => by
    obtain ⟨t, ht, rfl⟩ := List.mem_map.1 hm
    have := i2 t ht
    unfold shS at hs
    dsimp only at hs
    omega
  have z2 : ∀ s : Int × Int, a.1.length ≤ s.1 → (sidesL a.2).count s = 0 := fun s hs => List.count_eq_zero.2 fun hm => by
    have := i1 s hm
    omega
  congr 1
  · refine all_congr' fun s hs => ?_
    have := i1 s hs
    rw [List.count_append, List.count_append, z1 s (by omega), z1 (s.2, s.1) (by dsimp only; omega)]
    rfl
  · refine all_congr' fun s hs => ?_
    have := i2 s hs
    simp only [Function.comp]
    have e : ((shS a.1.length s).2, (shS a.1.length s).1) = shS a.1.length (s.2, s.1) := rfl
    rw [e, List.count_append, List.count_append, z2 _ (by unfold shS; dsimp only; omega), z2 _ (by unfold shS; dsimp only; omega), count_sh, count_sh, Nat.zero_add, Nat.zero_add]
end Go.Proofs.Pen

namespace Go.Proofs.Pen
open Go Go.Proofs Mp

theorem Joins_l0 {a b : Msh} (h2 : a.1.length + b.1.length ≤ 1024) :
    law45_MeshJoins.l0 (a, b, false, joined a b, (a.1.length : Int), 0, ()) = some (.exit 0, a, b, false, joined a b, (a.1.length : Int), ((joined a b).1.length : Int), ()) := by
  have hj : (joined a b).1 = a.1 ++ b.1 := rfl
  have hjl : (joined a b).1.length = a.1.length + b.1.length := by rw [hj, List.length_append]
  have s0 := iter_count (t := law45_MeshJoins.t0) (fun k => (a, b, false, joined a b, (a.1.length : Int), (k : Int), ())) (e := .exit 0) (z := (a, b, false, joined a b, (a.1.length : Int), ((joined a b).1.length : Int), ())) (by simp) (joined a b).1.length 0 rounds
    (fun k _ hk => by
      have hk : k < (joined a b).1.length := by omega
      unfold law45_MeshJoins.t0
      simp only [tr_ite, tr_ret, tr_opt, decide_eq_true_eq]
      rw [if_pos (by omega), lget_nat _ hk, Option.bind_some, W_succ (by omega)]
      by_cases hlt : k < a.1.length
      · rw [if_pos (by omega), lget_nat a.1 hlt, Option.bind_some]
        have e : (joined a b).1[k] = a.1[k] := List.getElem_append_left hlt
        rw [e, if_pos (by simp), if_neg (by omega)]
      · rw [if_neg (by omega), if_pos (by omega), W_id (n := (k : Int) - _) (by omega) (by omega), show (k : Int) - (a.1.length : Int) = ((k - a.1.length : Nat) : Int) by omega, lget_nat b.1 (k := k - a.1.length) (by omega), Option.bind_some, Option.bind_some]
        have e : (joined a b).1[k] = b.1[k - a.1.length] := List.getElem_append_right (by omega)
        rw [e, if_neg (by simp)])
    (by
      unfold law45_MeshJoins.t0
      simp only [tr_ite, tr_ret, decide_eq_true_eq]
      rw [if_neg (by omega), Nat.zero_add])
    (rounds_gt (by omega))
  exact s0

theorem Joins_l2 {a b : Msh} (h1 : a.2.length + b.2.length ≤ 512) (h2 : a.1.length + b.1.length ≤ 1024) (h4 : b.2.all (plB b.1.length) = true) :
    law45_MeshJoins.l2 (a, b, false, joined a b, (a.1.length : Int), 0, ()) = some (.exit 2, a, b, false, joined a b, (a.1.length : Int), (b.2.length : Int), ()) := by
  have s0 := iter_count (t := law45_MeshJoins.t2) (fun k => (a, b, false, joined a b, (a.1.length : Int), (k : Int), ())) (e := .exit 2) (z := (a, b, false, joined a b, (a.1.length : Int), (b.2.length : Int), ())) (by simp) b.2.length 0 rounds
    (fun k _ hk => by
      have hk : k < b.2.length := by omega
      have hp : pl b.1.length b.2[k] := of_decide_eq_true (List.all_eq_true.1 h4 _ (List.getElem_mem hk))
      unfold pl at hp
      have hl : a.2.length + k < (joined a b).2.length := by unfold joined; rw [List.length_append, List.length_map]; omega
      unfold law45_MeshJoins.t2
      simp only [tr_ite, tr_ret, tr_opt, decide_eq_true_eq]
      rw [if_pos (by omega), lget_nat b.2 hk, Option.bind_some, W_id (n := (a.2.length : Int) + _) (by omega) (by omega), show (a.2.length : Int) + (k : Int) = ((a.2.length + k : Nat) : Int) by omega, lget_nat _ hl, Option.bind_some, W_succ (by omega)]
      have e : (joined a b).2[a.2.length + k] = shF a.1.length b.2[k] := by
        have e1 : (joined a b).2[a.2.length + k] = (b.2.map (shF a.1.length))[a.2.length + k - a.2.length]'(by rw [List.length_map]; omega) := List.getElem_append_right (by omega)
        rw [e1, List.getElem_map]
        congr 2
        omega
      rw [e, W_id (n := b.2[k].1 + _) (by omega) (by omega), W_id (n := b.2[k].2.1 + _) (by omega) (by omega), W_id (n := b.2[k].2.2 + _) (by omega) (by omega), if_neg (by simp [shF])])
    (by
      unfold law45_MeshJoins.t2
      simp only [tr_ite, tr_ret, decide_eq_true_eq]
      rw [if_neg (by omega), Nat.zero_add])
    (rounds_gt (by omega))
  exact s0

theorem ok_chk {m : Msh} (h : chk m = 0) : meshOK m = true := by
  obtain ⟨h1, h2, h3, h4, h5⟩ := chk_zero.1 h
  unfold meshOK
  rw [Bool.and_eq_true, decide_eq_true_eq, List.all_eq_true]
  refine ⟨by omega, fun f hf => ?_⟩
  have hp : pl m.1.length f := of_decide_eq_true (List.all_eq_true.1 h4 _ hf)
  unfold pl at hp
  unfold wfB
  simp only [Bool.and_eq_true, decide_eq_true_eq]
  omega

theorem MeshJoins_law (a b : Msh) : (law45_MeshJoins.t (a, b)).run = some true := by
  unfold law45_MeshJoins.t
  rw [tr_ite]
  by_cases hla : a.1.length ≤ 40 ∧ a.2.length ≤ 60
  case neg => rw [if_pos (by simp; omega), tr_ret]
  rw [if_neg (by simp; omega), tr_ite]
  by_cases hlb : b.1.length ≤ 40 ∧ b.2.length ≤ 60
  case neg => rw [if_pos (by simp; omega), tr_ret]
  rw [if_neg (by simp; omega), tr_opt, Join_eq (by omega) (by omega), Option.bind_some, tr_opt, ref45_Check_eq, Option.bind_some, tr_ite]
  dsimp only
  by_cases ha : chk a = 0
  case neg =>
    rw [if_pos (show chk a ≠ 0 from ha), if_neg (show ¬ (chk a == 0) = true by simpa using ha), tr_ite, if_pos (show (chk a != 0) = true by simpa using ha), tr_ret]
    simp [W_id]
  rw [if_neg (show ¬ (chk a ≠ 0) from fun h => h ha), if_pos (show (chk a == 0) = true by simpa using ha), tr_opt, ref45_Check_eq, Option.bind_some, tr_ite]
  by_cases hb : chk b = 0
  case neg =>
    rw [if_pos (show chk b ≠ 0 from hb), if_pos (show (chk b != 0) = true by simpa using hb), tr_ret]
    simp [W_id]
  obtain ⟨_, _, a3, a4, a5⟩ := chk_zero.1 ha
  obtain ⟨_, _, b3, b4, b5⟩ := chk_zero.1 hb
  have hj := chk_joined ha hb (by omega) (by omega)
  have l1 : (joined a b).1.length = a.1.length + b.1.length := by unfold joined; rw [List.length_append]
  have l2 : (joined a b).2.length = a.2.length + b.2.length := by unfold joined; rw [List.length_append, List.length_map]
  rw [if_neg (show ¬ (chk b ≠ 0) from fun h => h hb), if_neg (show ¬ (chk b != 0) = true by simpa using hb), tr_ite]
  dsimp only
  rw [W_id (n := (a.1.length : Int) + _) (by omega) (by omega), W_id (n := (a.2.length : Int) + _) (by omega) (by omega), l1, l2, if_neg (by simp), tr_opt, Joins_l0 (by omega), Option.bind_some]
  dsimp only
  rw [tr_ite, if_pos (show exEq (.exit 0) (.exit 0) = true from rfl), tr_opt, Joins_l2 (by omega) (by omega) b4, Option.bind_some]
  dsimp only
  rw [tr_ite, if_pos (show exEq (.exit 2) (.exit 2) = true from rfl), tr_ite, if_pos rfl, tr_opt, Closed_eq (ok_chk hj), Option.bind_some, tr_opt, Closed_eq (ok_chk ha), Option.bind_some, hj, ha, closed_joined a4 b4, tr_ite]
  cases hca : closedB a.2
  · rw [if_neg (by simp), tr_ret]; rfl
  · rw [if_pos (by simp), tr_opt, Closed_eq (ok_chk hb), Option.bind_some, hb, tr_ret]
    simp

theorem MeshJoins_all (x : dens [TMesh, TMesh]) (_ : insAll [TMesh, TMesh] x) : (law45_MeshJoins.t x).run = some true := MeshJoins_law x.1 x.2
end Go.Proofs.Pen
