/- A part of the proof that the law XformMeshes is true of every input: models of the functions that the law reaches, and what holds of them. -/
import Derived.Test.YtdcdmooafepbiaaPenKit0
import Derived.Test.YtdcdmooafepbiaaPenKit1
import Derived.Test.YtdcdmooafepbiaaPenKit2
import Derived.Test.YtdcdmooafepbiaaPenKit3
import Derived.Test.YtdcdmooafepbiaaPenXformMeshes4
namespace Go.Proofs.Pen
open Go Go.Proofs
def law45_MeshJoins.L0 : List (Nat × Lay) := [(2, .box TMesh), (3, .box TMesh), (4, .val .bool), (5, .box TMesh), (8, .val TI), (9, .val TI)]
noncomputable def law45_MeshJoins.t0 (x : ((List (Int × Int × Int)) × List (Int × Int × Int)) × ((List (Int × Int × Int)) × List (Int × Int × Int)) × Bool × ((List (Int × Int × Int)) × List (Int × Int × Int)) × Int × Int × Unit) : T (Ex × ((List (Int × Int × Int)) × List (Int × Int × Int)) × ((List (Int × Int × Int)) × List (Int × Int × Int)) × Bool × ((List (Int × Int × Int)) × List (Int × Int × Int)) × Int × Int × Unit) := T.ite (decide (x.2.2.2.2.2.1 < (↑(List.length x.2.2.2.1.1) : Int))) (T.ite (decide (x.2.2.2.2.2.1 < x.2.2.2.2.1)) (T.opt (lget x.2.2.2.1.1 x.2.2.2.2.2.1) fun y => T.opt (lget x.1.1 x.2.2.2.2.2.1) fun y_1 => T.ite (!!(y.1 == y_1.fst && (y.2.1 == y_1.snd.fst && y.2.2 == y_1.snd.snd))) (T.ite (decide (x.2.2.2.2.2.1 ≥ x.2.2.2.2.1)) (T.opt (lget x.2.2.2.1.1 x.2.2.2.2.2.1) fun y => T.opt (lget x.2.1.1 (W (x.2.2.2.2.2.1 - x.2.2.2.2.1))) fun y_2 => T.ite (!(y.1 == y_2.fst && (y.2.1 == y_2.snd.fst && y.2.2 == y_2.snd.snd))) (T.ret (Ex.ret, x.1, x.2.1, false, x.2.2.2.1, x.2.2.2.2.1, x.2.2.2.2.2.1, ())) (T.ret (Ex.normal, x.1, x.2.1, x.2.2.1, x.2.2.2.1, x.2.2.2.2.1, W (x.2.2.2.2.2.1 + (1 : Int)), ()))) (T.ret (Ex.normal, x.1, x.2.1, x.2.2.1, x.2.2.2.1, x.2.2.2.2.1, W (x.2.2.2.2.2.1 + (1 : Int)), ()))) (T.ret (Ex.ret, x.1, x.2.1, false, x.2.2.2.1, x.2.2.2.2.1, x.2.2.2.2.2.1, ()))) (T.ite (decide (x.2.2.2.2.2.1 ≥ x.2.2.2.2.1)) (T.opt (lget x.2.2.2.1.1 x.2.2.2.2.2.1) fun y => T.opt (lget x.2.1.1 (W (x.2.2.2.2.2.1 - x.2.2.2.2.1))) fun y_1 => T.ite (!(y.1 == y_1.fst && (y.2.1 == y_1.snd.fst && y.2.2 == y_1.snd.snd))) (T.ret (Ex.ret, x.1, x.2.1, false, x.2.2.2.1, x.2.2.2.2.1, x.2.2.2.2.2.1, ())) (T.ret (Ex.normal, x.1, x.2.1, x.2.2.1, x.2.2.2.1, x.2.2.2.2.1, W (x.2.2.2.2.2.1 + (1 : Int)), ()))) (T.ret (Ex.normal, x.1, x.2.1, x.2.2.1, x.2.2.2.1, x.2.2.2.2.1, W (x.2.2.2.2.2.1 + (1 : Int)), ())))) (T.ret (Ex.exit (0 : Nat), x.1, x.2.1, x.2.2.1, x.2.2.2.1, x.2.2.2.2.1, x.2.2.2.2.2.1, ()))
noncomputable def law45_MeshJoins.l0 (x : ((List (Int × Int × Int)) × List (Int × Int × Int)) × ((List (Int × Int × Int)) × List (Int × Int × Int)) × Bool × ((List (Int × Int × Int)) × List (Int × Int × Int)) × Int × Int × Unit) : Option (Ex × ((List (Int × Int × Int)) × List (Int × Int × Int)) × ((List (Int × Int × Int)) × List (Int × Int × Int)) × Bool × ((List (Int × Int × Int)) × List (Int × Int × Int)) × Int × Int × Unit) := (iterT law45_MeshJoins.t0 rounds x).run
theorem law45_MeshJoins.k0 : bodies 0 (lp Try.f7 []) = [.loop (loopIn 0 (lp Try.f7 []))] ∧ WP Try.prog 0 (.block 0 (.loop (loopIn 0 (lp Try.f7 [])))) (loopS law45_MeshJoins.L0 170 0 [.exit 0, .ret] law45_MeshJoins.l0) :=
  loop_tree (L := law45_MeshJoins.L0) (F := ({ quiet := (ext (ext (ext (ext (ext Xs 19 law45_light.q) 20 law45_awake.q) 34 mesh_Join.q) 21 ref45_Check.q) 24 mesh_Closed.q), deep := noDeep } : Fns)) (D := D0) (tab := []) (t := law45_MeshJoins.t0) mixed (quiet_ext (quiet_ext (quiet_ext (quiet_ext (quiet_ext Xok law45_light.ok) law45_awake.ok) mesh_Join.ok) ref45_Check.ok) mesh_Closed.ok) (deep_none _) (fun _ => rfl) (by kernel_rfl) (by kernel_rfl) trivial (fun x => by kernel_rfl)
def law45_MeshJoins.L2 : List (Nat × Lay) := [(2, .box TMesh), (3, .box TMesh), (4, .val .bool), (5, .box TMesh), (8, .val TI), (10, .val TI)]
noncomputable def law45_MeshJoins.t2 (x : ((List (Int × Int × Int)) × List (Int × Int × Int)) × ((List (Int × Int × Int)) × List (Int × Int × Int)) × Bool × ((List (Int × Int × Int)) × List (Int × Int × Int)) × Int × Int × Unit) : T (Ex × ((List (Int × Int × Int)) × List (Int × Int × Int)) × ((List (Int × Int × Int)) × List (Int × Int × Int)) × Bool × ((List (Int × Int × Int)) × List (Int × Int × Int)) × Int × Int × Unit) := T.ite (decide (x.2.2.2.2.2.1 < (↑(List.length x.2.1.2) : Int))) (T.opt (lget x.2.1.2 x.2.2.2.2.2.1) fun y => T.opt (lget x.2.2.2.1.2 (W ((↑(List.length x.1.2) : Int) + x.2.2.2.2.2.1))) fun y_1 => T.ite (!(y_1.fst == W (y.1 + x.2.2.2.2.1) && (y_1.snd.fst == W (y.2.1 + x.2.2.2.2.1) && y_1.snd.snd == W (y.2.2 + x.2.2.2.2.1)))) (T.ret (Ex.ret, x.1, x.2.1, false, x.2.2.2.1, x.2.2.2.2.1, x.2.2.2.2.2.1, ())) (T.ret (Ex.normal, x.1, x.2.1, x.2.2.1, x.2.2.2.1, x.2.2.2.2.1, W (x.2.2.2.2.2.1 + (1 : Int)), ()))) (T.ret (Ex.exit (2 : Nat), x.1, x.2.1, x.2.2.1, x.2.2.2.1, x.2.2.2.2.1, x.2.2.2.2.2.1, ()))
noncomputable def law45_MeshJoins.l2 (x : ((List (Int × Int × Int)) × List (Int × Int × Int)) × ((List (Int × Int × Int)) × List (Int × Int × Int)) × Bool × ((List (Int × Int × Int)) × List (Int × Int × Int)) × Int × Int × Unit) : Option (Ex × ((List (Int × Int × Int)) × List (Int × Int × Int)) × ((List (Int × Int × Int)) × List (Int × Int × Int)) × Bool × ((List (Int × Int × Int)) × List (Int × Int × Int)) × Int × Int × Unit) := (iterT law45_MeshJoins.t2 rounds x).run
theorem law45_MeshJoins.k2 : bodies 2 (lp Try.f7 []) = [.loop (loopIn 2 (lp Try.f7 []))] ∧ WP Try.prog 0 (.block 2 (.loop (loopIn 2 (lp Try.f7 [])))) (loopS law45_MeshJoins.L2 170 2 [.exit 2, .ret] law45_MeshJoins.l2) :=
  loop_tree (L := law45_MeshJoins.L2) (F := ({ quiet := (ext (ext (ext (ext (ext Xs 19 law45_light.q) 20 law45_awake.q) 34 mesh_Join.q) 21 ref45_Check.q) 24 mesh_Closed.q), deep := noDeep } : Fns)) (D := D0) (tab := []) (t := law45_MeshJoins.t2) mixed (quiet_ext (quiet_ext (quiet_ext (quiet_ext (quiet_ext Xok law45_light.ok) law45_awake.ok) mesh_Join.ok) ref45_Check.ok) mesh_Closed.ok) (deep_none _) (fun _ => rfl) (by kernel_rfl) (by kernel_rfl) trivial (fun x => by kernel_rfl)
noncomputable def law45_MeshJoins.t (x : ((List (Int × Int × Int)) × List (Int × Int × Int)) × ((List (Int × Int × Int)) × List (Int × Int × Int))) : T (Bool) := T.ite (!(decide ((↑x.1.1.length : Int) ≤ (40 : Int)) && decide ((↑x.1.2.length : Int) ≤ (60 : Int)))) (T.ret true) (T.ite (!(decide ((↑x.2.1.length : Int) ≤ (40 : Int)) && decide ((↑x.2.2.length : Int) ≤ (60 : Int)))) (T.ret true) (T.opt (mesh_Join x) fun y => T.opt (ref45_Check x.1) fun y_1 => T.ite (y_1 == (0 : Int)) (T.opt (ref45_Check x.2) fun y_2 => T.ite (y_2 != (0 : Int)) (T.ret (W ((↑(List.length y.1.1) : Int) + (↑(List.length y.1.2) : Int)) == (0 : Int) && y.2 == y_2)) (T.ite (y.2 != (0 : Int) || (↑(List.length y.1.1) : Int) != W ((↑(List.length x.1.1) : Int) + (↑(List.length x.2.1) : Int)) || (↑(List.length y.1.2) : Int) != W ((↑(List.length x.1.2) : Int) + (↑(List.length x.2.2) : Int))) (T.ret false) (T.opt (law45_MeshJoins.l0 (x.1, x.2, false, y.1, (↑(List.length x.1.1) : Int), (0 : Int), ())) fun y => T.ite (exEq y.1 (Ex.exit (0 : Nat))) (T.opt (law45_MeshJoins.l2 (y.2.1, y.2.2.1, y.2.2.2.1, y.2.2.2.2.1, y.2.2.2.2.2.1, (0 : Int), ())) fun y => T.ite (exEq y.1 (Ex.exit (2 : Nat))) (T.ite true (T.opt (mesh_Closed y.2.2.2.2.1) fun y_3 => T.opt (mesh_Closed y.2.1) fun y_4 => T.ite y_4 (T.opt (mesh_Closed y.2.2.1) fun y => T.ret (y_3 == y)) (T.ret (y_3 == false))) (T.ret false)) (T.ite (exEq y.1 Ex.ret) (T.ret y.2.2.2.1) T.fail)) (T.ite (exEq y.1 Ex.ret) (T.ret y.2.2.2.1) T.fail)))) (T.ite (y_1 != (0 : Int)) (T.ret (W ((↑(List.length y.1.1) : Int) + (↑(List.length y.1.2) : Int)) == (0 : Int) && y.2 == y_1)) (T.ite (y.2 != (0 : Int) || (↑(List.length y.1.1) : Int) != W ((↑(List.length x.1.1) : Int) + (↑(List.length x.2.1) : Int)) || (↑(List.length y.1.2) : Int) != W ((↑(List.length x.1.2) : Int) + (↑(List.length x.2.2) : Int))) (T.ret false) (T.opt (law45_MeshJoins.l0 (x.1, x.2, false, y.1, (↑(List.length x.1.1) : Int), (0 : Int), ())) fun y => T.ite (exEq y.1 (Ex.exit (0 : Nat))) (T.opt (law45_MeshJoins.l2 (y.2.1, y.2.2.1, y.2.2.2.1, y.2.2.2.2.1, y.2.2.2.2.2.1, (0 : Int), ())) fun y => T.ite (exEq y.1 (Ex.exit (2 : Nat))) (T.ite true (T.opt (mesh_Closed y.2.2.2.2.1) fun y_2 => T.opt (mesh_Closed y.2.1) fun y_3 => T.ite y_3 (T.opt (mesh_Closed y.2.2.1) fun y => T.ret (y_2 == y)) (T.ret (y_2 == false))) (T.ret false)) (T.ite (exEq y.1 Ex.ret) (T.ret y.2.2.2.1) T.fail)) (T.ite (exEq y.1 Ex.ret) (T.ret y.2.2.2.1) T.fail))))))
noncomputable def law45_MeshJoins (x : ((List (Int × Int × Int)) × List (Int × Int × Int)) × ((List (Int × Int × Int)) × List (Int × Int × Int))) : Option (Bool) := (law45_MeshJoins.t x).run
noncomputable def law45_MeshJoins.q : List AV → T AV := entry [TMesh, TMesh] (outR [.bool]) fun x => .opt (law45_MeshJoins x) .ret
theorem law45_MeshJoins.ok : FnOK Try.prog 7 law45_MeshJoins.q :=
  entry_call (ps := [TMesh, TMesh]) (rs := [.bool]) (F := ({ quiet := (ext (ext (ext (ext (ext Xs 19 law45_light.q) 20 law45_awake.q) 34 mesh_Join.q) 21 ref45_Check.q) 24 mesh_Closed.q), deep := noDeep } : Fns)) (D := D0) (S := tabS [(0, loopS law45_MeshJoins.L0 170 0 [.exit 0, .ret] law45_MeshJoins.l0), (2, loopS law45_MeshJoins.L2 170 2 [.exit 2, .ret] law45_MeshJoins.l2)]) (t := law45_MeshJoins.t) mixed (quiet_ext (quiet_ext (quiet_ext (quiet_ext (quiet_ext Xok law45_light.ok) law45_awake.ok) mesh_Join.ok) ref45_Check.ok) mesh_Closed.ok) (deep_none _) Try.func7 (by kernel_rfl) (sok_fn ⟨law45_MeshJoins.k0, law45_MeshJoins.k2, trivial⟩) (by kernel_rfl) (fun x => by kernel_rfl)
end Go.Proofs.Pen

namespace Go.Proofs.Pen
open Go Go.Proofs Mp

def shF (n : Int) (f : P3) : P3 := (f.1 + n, f.2.1 + n, f.2.2 + n)
def joined (a b : Msh) : Msh := (a.1 ++ b.1, a.2 ++ b.2.map (shF a.1.length))

theorem gp_left {ps qs : List P3} {i : Int} (_ : 0 ≤ i) (h1 : i < ps.length) : gp (ps ++ qs) i = gp ps i := by
  unfold gp
  rw [List.getD_eq_getElem?_getD, List.getD_eq_getElem?_getD, List.getElem?_append_left (by omega)]
theorem gp_right {ps qs : List P3} {i : Int} (h0 : 0 ≤ i) : gp (ps ++ qs) (i + ps.length) = gp qs i := by
  unfold gp
  rw [List.getD_eq_getElem?_getD, List.getD_eq_getElem?_getD, List.getElem?_append_right (by omega)]
  congr 2
  omega

theorem chk_joined {a b : Msh} (ha : chk a = 0) (hb : chk b = 0) (h1 : a.2.length + b.2.length ≤ 512) (h2 : a.1.length + b.1.length ≤ 1024) : chk (joined a b) = 0 := by
  obtain ⟨_, _, a3, a4, a5⟩ := chk_zero.1 ha
  obtain ⟨_, _, b3, b4, b5⟩ := chk_zero.1 hb
  refine chk_zero.2 ⟨by simp [joined]; omega, by simp [joined]; omega, by simp only [joined, List.all_append, a3, b3, Bool.and_self], ?_, ?_⟩
  · show ((a.2 ++ b.2.map _).all (plB ((a.1 ++ b.1).length : Int))) = true
    rw [List.all_append, List.all_map, Bool.and_eq_true, List.all_eq_true, List.all_eq_true]
    constructor
    · intro f hf
      have hp : pl a.1.length f := of_decide_eq_true (List.all_eq_true.1 a4 _ hf)
      unfold pl at hp
      refine decide_eq_true ?_
      unfold pl
      rw [List.length_append]
      omega
    · intro f hf
      have hp : pl b.1.length f := of_decide_eq_true (List.all_eq_true.1 b4 _ hf)
      unfold pl at hp
      refine decide_eq_true ?_
      unfold pl shF
      rw [List.length_append]
      dsimp only
      omega
  · show ((a.2 ++ b.2.map _).all fun f => !flB (a.1 ++ b.1) f) = true
    rw [List.all_append, List.all_map, Bool.and_eq_true, List.all_eq_true, List.all_eq_true]
    constructor
    · intro f hf
      have hp : pl a.1.length f := of_decide_eq_true (List.all_eq_true.1 a4 _ hf)
      unfold pl at hp
      have := List.all_eq_true.1 a5 _ hf
      unfold flB fl at this ⊢
      rw [gp_left (by omega) (by omega), gp_left (by omega) (by omega), gp_left (by omega) (by omega)]
      exact this
    · intro f hf
      have hp : pl b.1.length f := of_decide_eq_true (List.all_eq_true.1 b4 _ hf)
      unfold pl at hp
      have := List.all_eq_true.1 b5 _ hf
      unfold flB fl at this
      simp only [Function.comp]
      unfold flB fl shF
      dsimp only
      rw [gp_right (by omega), gp_right (by omega), gp_right (by omega)]
      exact this

theorem Join_eq {a b : Msh} (h1 : a.2.length + b.2.length ≤ 512) (h2 : a.1.length + b.1.length ≤ 1024) :
    mesh_Join (a, b) = some (if chk a ≠ 0 then (([], []), chk a) else if chk b ≠ 0 then (([], []), chk b) else (joined a b, 0)) := by
  unfold mesh_Join mesh_Join.t
  rw [tr_opt, mesh_Check_eq, Option.bind_some, tr_ite]
  by_cases ha : chk a = 0
  case neg => rw [if_pos (by simpa using ha), if_pos ha, tr_ret]
  rw [if_neg (by simpa using ha), if_neg (by simpa using ha), tr_opt, mesh_Check_eq, Option.bind_some, tr_ite]
  by_cases hb : chk b = 0
  case neg => rw [if_pos (by simpa using hb), if_pos hb, tr_ret]
  rw [if_neg (by simpa using hb), if_neg (by simpa using hb)]
  obtain ⟨_, _, a3, a4, a5⟩ := chk_zero.1 ha
  obtain ⟨_, _, b3, b4, b5⟩ := chk_zero.1 hb
  dsimp only
  have et : List.take ((a.1.length : Int).toNat - Int.toNat 0) (List.drop (Int.toNat 0) a.1) = a.1 := by simp
  rw [tr_ite, if_pos (by simp), tr_ite, if_pos (by simp), et, tr_ite, if_pos (by unfold most; simp; omega), tr_ite, if_pos (by unfold most; simp; omega), List.take_length, tr_opt]
  have e0 : ∀ y, mesh_Join.l0 y = (iterT mesh_Join.t0 rounds y).run := fun _ => rfl
  have s0 := iter_count (t := mesh_Join.t0) (fun k => (([], []), (a.1.length : Int), (a.1 ++ b.1, a.2 ++ (b.2.take k).map (shF a.1.length), ()), b.2, (b.2.length : Int), (k : Int), ())) (e := .exit 0)
    (z := (([], []), (a.1.length : Int), (a.1 ++ b.1, a.2 ++ (b.2.take b.2.length).map (shF a.1.length), ()), b.2, (b.2.length : Int), (b.2.length : Int), ())) (by simp) b.2.length 0 rounds
    (fun k _ hk => by
      have hk : k < b.2.length := by omega
      have hp : pl b.1.length b.2[k] := of_decide_eq_true (List.all_eq_true.1 b4 _ (List.getElem_mem hk))
      unfold pl at hp
      have hlen : (a.2 ++ (b.2.take k).map (shF a.1.length)).length = a.2.length + k := by rw [List.length_append, List.length_map, List.length_take]; omega
      unfold mesh_Join.t0
      simp only [tr_ite, tr_ret, tr_opt, decide_eq_true_eq]
      rw [if_pos (by omega), lget_nat b.2 hk, Option.bind_some, if_pos (by rw [hlen]; exact room (by omega) (by omega)), W_succ (by omega), take_all, map_take _ _ hk,
        W_id (n := b.2[k].1 + _) (by omega) (by omega), W_id (n := b.2[k].2.1 + _) (by omega) (by omega), W_id (n := b.2[k].2.2 + _) (by omega) (by omega), List.append_assoc]
      rfl)
    (by
      unfold mesh_Join.t0
      simp only [tr_ite, tr_ret, decide_eq_true_eq]
      rw [if_neg (by omega), Nat.zero_add, List.take_length, List.take_length])
    (rounds_gt (by omega))
  have z : ((0 : Nat) : Int) = 0 := rfl
  simp only [z, List.take_zero, List.map_nil, List.append_nil, List.take_length] at s0
  rw [e0, s0, Option.bind_some]
  dsimp only
  rw [tr_ite, if_pos (show exEq (.exit 0) (.exit 0) = true from rfl), tr_opt, List.take_length, mesh_Check_eq, Option.bind_some]
  have := chk_joined ha hb h1 h2
  unfold joined at this
  rw [this]
  rfl

/-! ### Closed, of what is joined -/
theorem sidesL_append (x y : List P3) : sidesL (x ++ y) = sidesL x ++ sidesL y := by simp [sidesL]
def shS (n : Int) (s : Int × Int) : Int × Int := (s.1 + n, s.2 + n)
theorem sidesL_sh (n : Int) (l : List P3) : sidesL (l.map (shF n)) = (sidesL l).map (shS n) := by
  induction l with
  | nil => rfl
  | cons f l ih =>
    show sidesOf (shF n f) ++ sidesL (l.map (shF n)) = _
    rw [ih]
    show _ = (sidesOf f ++ sidesL l).map (shS n)
    rw [List.map_append]
    rfl
theorem count_sh (n : Int) (s : Int × Int) : ∀ l : List (Int × Int), (l.map (shS n)).count (shS n s) = l.count s
  | [] => rfl
  | t :: l => by
    rw [List.map_cons, List.count_cons, List.count_cons, count_sh n s l]
    congr 1
    have : (shS n t == shS n s) = (t == s) := by
      obtain ⟨a, b⟩ := s
      obtain ⟨c, d⟩ := t
      rw [Bool.eq_iff_iff]
      simp only [shS, beq_iff_eq, Prod.mk.injEq]
      omega
    rw [this]

theorem all_congr' {α : Type} {l : List α} {p q : α → Bool} (h : ∀ x ∈ l, p x = q x) : l.all p = l.all q := by
  rw [Bool.eq_iff_iff, List.all_eq_true, List.all_eq_true]
  exact ⟨fun k x hx => (h x hx) ▸ k x hx, fun k x hx => (h x hx).symm ▸ k x hx⟩

theorem closed_joined {a b : Msh} (h1 : a.2.all (plB a.1.length) = true) (h2 : b.2.all (plB b.1.length) = true) : closedB (joined a b).2 = (closedB a.2 && closedB b.2) := by
  unfold joined closedB
  dsimp only
  rw [sidesL_append, sidesL_sh, List.all_append, List.all_map]
  have i1 := sides_in h1
  have i2 := sides_in h2
  have z1 : ∀ s : Int × Int, s.1 < a.1.length → ((sidesL b.2).map (shS a.1.length)).count s = 0 := fun s hs => List.count_eq_zero.2 fun hm => by
    obtain ⟨t, ht, rfl⟩ := List.mem_map.1 hm
    have := i2 t ht
    unfold shS at hs
    dsimp only at hs
    omega
  have z2 : ∀ s : Int × Int, a.1.length ≤ s.1 → (sidesL a.2).count s = 0 := fun s hs => List.count_eq_zero.2 fun hm => by
    have := i1 s hm
    omega
  congr 1
  · refine all_congr' fun s hs => ?_
    have := i1 s hs
    rw [List.count_append, List.count_append, z1 s (by omega), z1 (s.2, s.1) (by dsimp only; omega)]
    rfl
  · refine all_congr' fun s hs => ?_
    have := i2 s hs
    simp only [Function.comp]
    have e : ((shS a.1.length s).2, (shS a.1.length s).1) = shS a.1.length (s.2, s.1) := rfl
    rw [e, List.count_append, List.count_append, z2 _ (by unfold shS; dsimp only; omega), z2 _ (by unfold shS; dsimp only; omega), count_sh, count_sh, Nat.zero_add, Nat.zero_add]
end Go.Proofs.Pen

namespace Go.Proofs.Pen
open Go Go.Proofs Mp

theorem Joins_l0 {a b : Msh} (h2 : a.1.length + b.1.length ≤ 1024) :
    law45_MeshJoins.l0 (a, b, false, joined a b, (a.1.length : Int), 0, ()) = some (.exit 0, a, b, false, joined a b, (a.1.length : Int), ((joined a b).1.length : Int), ()) := by
  have hj : (joined a b).1 = a.1 ++ b.1 := rfl
  have hjl : (joined a b).1.length = a.1.length + b.1.length := by rw [hj, List.length_append]
  have s0 := iter_count (t := law45_MeshJoins.t0) (fun k => (a, b, false, joined a b, (a.1.length : Int), (k : Int), ())) (e := .exit 0) (z := (a, b, false, joined a b, (a.1.length : Int), ((joined a b).1.length : Int), ())) (by simp) (joined a b).1.length 0 rounds
    (fun k _ hk => by
      have hk : k < (joined a b).1.length := by omega
      unfold law45_MeshJoins.t0
      simp only [tr_ite, tr_ret, tr_opt, decide_eq_true_eq]
      rw [if_pos (by omega), lget_nat _ hk, Option.bind_some, W_succ (by omega)]
      by_cases hlt : k < a.1.length
      · rw [if_pos (by omega), lget_nat a.1 hlt, Option.bind_some]
        have e : (joined a b).1[k] = a.1[k] := List.getElem_append_left hlt
        rw [e, if_pos (by simp), if_neg (by omega)]
      · rw [if_neg (by omega), if_pos (by omega), W_id (n := (k : Int) - _) (by omega) (by omega), show (k : Int) - (a.1.length : Int) = ((k - a.1.length : Nat) : Int) by omega, lget_nat b.1 (k := k - a.1.length) (by omega), Option.bind_some, Option.bind_some]
        have e : (joined a b).1[k] = b.1[k - a.1.length] := List.getElem_append_right (by omega)
        rw [e, if_neg (by simp)])
    (by
      unfold law45_MeshJoins.t0
      simp only [tr_ite, tr_ret, decide_eq_true_eq]
      rw [if_neg (by omega), Nat.zero_add])
    (rounds_gt (by omega))
  exact s0

theorem Joins_l2 {a b : Msh} (h1 : a.2.length + b.2.length ≤ 512) (h2 : a.1.length + b.1.length ≤ 1024) (h4 : b.2.all (plB b.1.length) = true) :
    law45_MeshJoins.l2 (a, b, false, joined a b, (a.1.length : Int), 0, ()) = some (.exit 2, a, b, false, joined a b, (a.1.length : Int), (b.2.length : Int), ()) := by
  have s0 := iter_count (t := law45_MeshJoins.t2) (fun k => (a, b, false, joined a b, (a.1.length : Int), (k : Int), ())) (e := .exit 2) (z := (a, b, false, joined a b, (a.1.length : Int), (b.2.length : Int), ())) (by simp) b.2.length 0 rounds
    (fun k _ hk => by
      have hk : k < b.2.length := by omega
      have hp : pl b.1.length b.2[k] := of_decide_eq_true (List.all_eq_true.1 h4 _ (List.getElem_mem hk))
      unfold pl at hp
      have hl : a.2.length + k < (joined a b).2.length := by unfold joined; rw [List.length_append, List.length_map]; omega
      unfold law45_MeshJoins.t2
      simp only [tr_ite, tr_ret, tr_opt, decide_eq_true_eq]
      rw [if_pos (by omega), lget_nat b.2 hk, Option.bind_some, W_id (n := (a.2.length : Int) + _) (by omega) (by omega), show (a.2.length : Int) + (k : Int) = ((a.2.length + k : Nat) : Int) by omega, lget_nat _ hl, Option.bind_some, W_succ (by omega)]
      have e : (joined a b).2[a.2.length + k] = shF a.1.length b.2[k] := by
        have e1 : (joined a b).2[a.2.length + k] = (b.2.map (shF a.1.length))[a.2.length + k - a.2.length]'(by rw [List.length_map]; omega) := List.getElem_append_right (by omega)
        rw [e1, List.getElem_map]
        congr 2
        omega
      rw [e, W_id (n := b.2[k].1 + _) (by omega) (by omega), W_id (n := b.2[k].2.1 + _) (by omega) (by omega), W_id (n := b.2[k].2.2 + _) (by omega) (by omega), if_neg (by simp [shF])])
    (by
      unfold law45_MeshJoins.t2
      simp only [tr_ite, tr_ret, decide_eq_true_eq]
      rw [if_neg (by omega), Nat.zero_add])
    (rounds_gt (by omega))
  exact s0

theorem ok_chk {m : Msh} (h : chk m = 0) : meshOK m = true := by
  obtain ⟨h1, h2, h3, h4, h5⟩ := chk_zero.1 h
  unfold meshOK
  rw [Bool.and_eq_true, decide_eq_true_eq, List.all_eq_true]
  refine ⟨by omega, fun f hf => ?_⟩
  have hp : pl m.1.length f := of_decide_eq_true (List.all_eq_true.1 h4 _ hf)
  unfold pl at hp
  unfold wfB
  simp only [Bool.and_eq_true, decide_eq_true_eq]
  omega

theorem MeshJoins_law (a b : Msh) : (law45_MeshJoins.t (a, b)).run = some true := by
  unfold law45_MeshJoins.t
  rw [tr_ite]
  by_cases hla : a.1.length ≤ 40 ∧ a.2.length ≤ 60
  case neg => rw [if_pos (by simp; omega), tr_ret]
  rw [if_neg (by simp; omega), tr_ite]
  by_cases hlb : b.1.length ≤ 40 ∧ b.2.length ≤ 60
  case neg => rw [if_pos (by simp; omega), tr_ret]
  rw [if_neg (by simp; omega), tr_opt, Join_eq (by omega) (by omega), Option.bind_some, tr_opt, ref45_Check_eq, Option.bind_some, tr_ite]
  dsimp only
  by_cases ha : chk a = 0
  case neg =>
    rw [if_pos (show chk a ≠ 0 from ha), if_neg (show ¬ (chk a == 0) = true by simpa using ha), tr_ite, if_pos (show (chk a != 0) = true by simpa using ha), tr_ret]
    simp [W_id]
  rw [if_neg (show ¬ (chk a ≠ 0) from fun h => h ha), if_pos (show (chk a == 0) = true by simpa using ha), tr_opt, ref45_Check_eq, Option.bind_some, tr_ite]
  by_cases hb : chk b = 0
  case neg =>
    rw [if_pos (show chk b ≠ 0 from hb), if_pos (show (chk b != 0) = true by simpa using hb), tr_ret]
    simp [W_id]
  obtain ⟨_, _, a3, a4, a5⟩ := chk_zero.1 ha
  obtain ⟨_, _, b3, b4, b5⟩ := chk_zero.1 hb
  have hj := chk_joined ha hb (by omega) (by omega)
  have l1 : (joined a b).1.length = a.1.length + b.1.length := by unfold joined; rw [List.length_append]
  have l2 : (joined a b).2.length = a.2.length + b.2.length := by unfold joined; rw [List.length_append, List.length_map]
  rw [if_neg (show ¬ (chk b ≠ 0) from fun h => h hb), if_neg (show ¬ (chk b != 0) = true by simpa using hb), tr_ite]
  dsimp only
  rw [W_id (n := (a.1.length : Int) + _) (by omega) (by omega), W_id (n := (a.2.length : Int) + _) (by omega) (by omega), l1, l2, if_neg (by simp), tr_opt, Joins_l0 (by omega), Option.bind_some]
  dsimp only
  rw [tr_ite, if_pos (show exEq (.exit 0) (.exit 0) = true from rfl), tr_opt, Joins_l2 (by omega) (by omega) b4, Option.bind_some]
  dsimp only
  rw [tr_ite, if_pos (show exEq (.exit 2) (.exit 2) = true from rfl), tr_ite, if_pos rfl, tr_opt, Closed_eq (ok_chk hj), Option.bind_some, tr_opt, Closed_eq (ok_chk ha), Option.bind_some, hj, ha, closed_joined a4 b4, tr_ite]
  cases hca : closedB a.2
  · rw [if_neg (by simp), tr_ret]; rfl
  · rw [if_pos (by simp), tr_opt, Closed_eq (ok_chk hb), Option.bind_some, hb, tr_ret]
    simp

theorem MeshJoins_all (x : dens [TMesh, TMesh]) (_ : insAll [TMesh, TMesh] x) : (law45_MeshJoins.t x).run = some true := MeshJoins_law x.1 x.2
end Go.Proofs.Pen

namespace Go.Proofs.Pen
open Go Go.Proofs
set_option maxRecDepth 100000
noncomputable def law46_awake.t (_ : Unit) : T (Bool) := T.ret true
noncomputable def law46_awake.q : List AV → T AV := entry [] (outR [.bool]) fun _ => .ret (true : dens [.bool])
theorem law46_awake.ok : FnOK Try.prog 35 law46_awake.q := pe_entry mixed Xok 100 20 Try.func35 (by kernel_rfl) (by kernel_rfl)
end Go.Proofs.Pen

namespace Go.Proofs.Pen
open Go Go.Proofs
noncomputable def xform_within.t (x : (Int × Int × Int) × Int) : T (Bool) := T.ret (decide ((if x.1.2.2 < if x.1.2.1 < x.1.1 then x.1.2.1 else x.1.1 then x.1.2.2 else if x.1.2.1 < x.1.1 then x.1.2.1 else x.1.1) ≥ W ((0 : Int) - x.2)) && decide ((if x.1.2.2 > if x.1.2.1 > x.1.1 then x.1.2.1 else x.1.1 then x.1.2.2 else if x.1.2.1 > x.1.1 then x.1.2.1 else x.1.1) ≤ x.2))
noncomputable def xform_within.q : List AV → T AV := entry [TP, TI] (outR [.bool]) xform_within.t
theorem xform_within.ok : FnOK Try.prog 95 xform_within.q :=
  entry_in (ps := [TP, TI]) (rs := [.bool]) (F := ({ quiet := Xs, deep := noDeep } : Fns)) (D := D0) (S := tabS []) (t := xform_within.t) mixed Xok (deep_none _) Try.func95 (by kernel_rfl) (sok_fn trivial) (by kernel_rfl) (fun x => by kernel_rfl)
end Go.Proofs.Pen

namespace Go.Proofs.Pen
open Go Go.Proofs
noncomputable def xform_Check.t (x : ((Int × Int × Int) × (Int × Int × Int) × (Int × Int × Int) × Int × Int × Int)) : T (Int) := T.ite (!(decide ((if x.1.2.2 < if x.1.2.1 < x.1.1 then x.1.2.1 else x.1.1 then x.1.2.2 else if x.1.2.1 < x.1.1 then x.1.2.1 else x.1.1) ≥ W ((0 : Int) - (4096 : Int))) && decide ((if x.1.2.2 > if x.1.2.1 > x.1.1 then x.1.2.1 else x.1.1 then x.1.2.2 else if x.1.2.1 > x.1.1 then x.1.2.1 else x.1.1) ≤ (4096 : Int)))) (T.ret (3 : Int)) (T.ite (!(decide ((if x.2.1.2.2 < if x.2.1.2.1 < x.2.1.1 then x.2.1.2.1 else x.2.1.1 then x.2.1.2.2 else if x.2.1.2.1 < x.2.1.1 then x.2.1.2.1 else x.2.1.1) ≥ W ((0 : Int) - (4096 : Int))) && decide ((if x.2.1.2.2 > if x.2.1.2.1 > x.2.1.1 then x.2.1.2.1 else x.2.1.1 then x.2.1.2.2 else if x.2.1.2.1 > x.2.1.1 then x.2.1.2.1 else x.2.1.1) ≤ (4096 : Int)))) (T.ret (3 : Int)) (T.ite (!(decide ((if x.2.2.1.2.2 < if x.2.2.1.2.1 < x.2.2.1.1 then x.2.2.1.2.1 else x.2.2.1.1 then x.2.2.1.2.2 else if x.2.2.1.2.1 < x.2.2.1.1 then x.2.2.1.2.1 else x.2.2.1.1) ≥ W ((0 : Int) - (4096 : Int))) && decide ((if x.2.2.1.2.2 > if x.2.2.1.2.1 > x.2.2.1.1 then x.2.2.1.2.1 else x.2.2.1.1 then x.2.2.1.2.2 else if x.2.2.1.2.1 > x.2.2.1.1 then x.2.2.1.2.1 else x.2.2.1.1) ≤ (4096 : Int)))) (T.ret (3 : Int)) (T.ite (!(decide ((if x.2.2.2.2.2 < if x.2.2.2.2.1 < x.2.2.2.1 then x.2.2.2.2.1 else x.2.2.2.1 then x.2.2.2.2.2 else if x.2.2.2.2.1 < x.2.2.2.1 then x.2.2.2.2.1 else x.2.2.2.1) ≥ W ((0 : Int) - (1048576 : Int))) && decide ((if x.2.2.2.2.2 > if x.2.2.2.2.1 > x.2.2.2.1 then x.2.2.2.2.1 else x.2.2.2.1 then x.2.2.2.2.2 else if x.2.2.2.2.1 > x.2.2.2.1 then x.2.2.2.2.1 else x.2.2.2.1) ≤ (1048576 : Int)))) (T.ret (3 : Int)) (T.ret (0 : Int)))))
noncomputable def xform_Check (x : ((Int × Int × Int) × (Int × Int × Int) × (Int × Int × Int) × Int × Int × Int)) : Option (Int) := (xform_Check.t x).run
noncomputable def xform_Check.q : List AV → T AV := entry [TMove] (outR [TI]) fun x => .opt (xform_Check x) .ret
theorem xform_Check.ok : FnOK Try.prog 70 xform_Check.q :=
  entry_call (ps := [TMove]) (rs := [TI]) (F := ({ quiet := (ext Xs 95 xform_within.q), deep := noDeep } : Fns)) (D := D0) (S := tabS []) (t := xform_Check.t) mixed (quiet_ext Xok xform_within.ok) (deep_none _) Try.func70 (by kernel_rfl) (sok_fn trivial) (by kernel_rfl) (fun x => by kernel_rfl)
end Go.Proofs.Pen

namespace Go.Proofs.Pen
open Go Go.Proofs
noncomputable def xform_dot_1.t (x : (Int × Int × Int) × (Int × Int × Int)) : T (Int) := T.ite (decide ((10 : Int) < (0 : Int))) T.fail (T.ret ((W (W (W (x.1.1 * x.2.1) + W (x.1.2.1 * x.2.2.1)) + W (x.1.2.2 * x.2.2.2))).fdiv ((2 : Int) ^ min (Int.toNat (10 : Int)) IntKind.i64.bits)))
noncomputable def xform_dot_1 (x : (Int × Int × Int) × (Int × Int × Int)) : Option (Int) := (xform_dot_1.t x).run
noncomputable def xform_dot_1.q : List AV → T AV := entry [TP, (.ptr TP)] (outR [TI]) fun x => .opt (xform_dot_1 x) .ret
theorem xform_dot_1.ok : FnOK Try.prog 107 xform_dot_1.q :=
  entry_call (ps := [TP, (.ptr TP)]) (rs := [TI]) (F := ({ quiet := Xs, deep := noDeep } : Fns)) (D := D0) (S := tabS []) (t := xform_dot_1.t) mixed Xok (deep_none _) Try.func107 (by kernel_rfl) (sok_fn trivial) (by kernel_rfl) (fun x => by kernel_rfl)
end Go.Proofs.Pen

namespace Go.Proofs.Pen
open Go Go.Proofs
noncomputable def xform_dot.t (x : (Int × Int × Int)) : T ((Int × Int × Int)) := T.ret x
noncomputable def xform_dot.q : List AV → T AV := entry [TP] (outR [(.clo 107 (.ptr TP))]) xform_dot.t
theorem xform_dot.ok : FnOK Try.prog 96 xform_dot.q :=
  entry_in (ps := [TP]) (rs := [(.clo 107 (.ptr TP))]) (F := ({ quiet := (ext Xs 107 xform_dot_1.q), deep := noDeep } : Fns)) (D := D0) (S := tabS []) (t := xform_dot.t) mixed (quiet_ext Xok xform_dot_1.ok) (deep_none _) Try.func96 (by kernel_rfl) (sok_fn trivial) (by kernel_rfl) (fun x => by kernel_rfl)
end Go.Proofs.Pen

namespace Go.Proofs.Pen
open Go Go.Proofs
noncomputable def xform_Apply.t (x : ((Int × Int × Int) × (Int × Int × Int) × (Int × Int × Int) × Int × Int × Int) × (Int × Int × Int)) : T ((Int × Int × Int) × Int) := T.opt (xform_Check x.1) fun y => T.ite (y != (0 : Int)) (T.ret (((0 : Int), (0 : Int), (0 : Int)), (3 : Int))) (T.ite (!(decide ((if x.2.2.2 < if x.2.2.1 < x.2.1 then x.2.2.1 else x.2.1 then x.2.2.2 else if x.2.2.1 < x.2.1 then x.2.2.1 else x.2.1) ≥ W ((0 : Int) - (1048576 : Int))) && decide ((if x.2.2.2 > if x.2.2.1 > x.2.1 then x.2.2.1 else x.2.1 then x.2.2.2 else if x.2.2.1 > x.2.1 then x.2.2.1 else x.2.1) ≤ (1048576 : Int)))) (T.ret (((0 : Int), (0 : Int), (0 : Int)), (3 : Int))) (T.opt (xform_dot_1 (x.1.1, x.2)) fun y => T.opt (xform_dot_1 (x.1.2.1, x.2)) fun y_1 => T.opt (xform_dot_1 (x.1.2.2.1, x.2)) fun y_2 => T.ret ((W (y + x.1.2.2.2.1), W (y_1 + x.1.2.2.2.2.1), W (y_2 + x.1.2.2.2.2.2)), (0 : Int))))
noncomputable def xform_Apply (x : ((Int × Int × Int) × (Int × Int × Int) × (Int × Int × Int) × Int × Int × Int) × (Int × Int × Int)) : Option ((Int × Int × Int) × Int) := (xform_Apply.t x).run
noncomputable def xform_Apply.q : List AV → T AV := entry [TMove, TP] (outR [TP, TI]) fun x => .opt (xform_Apply x) .ret
theorem xform_Apply.ok : FnOK Try.prog 67 xform_Apply.q :=
  entry_call (ps := [TMove, TP]) (rs := [TP, TI]) (F := ({ quiet := (ext (ext (ext (ext Xs 70 xform_Check.q) 95 xform_within.q) 96 xform_dot.q) 107 xform_dot_1.q), deep := noDeep } : Fns)) (D := D0) (S := tabS []) (t := xform_Apply.t) mixed (quiet_ext (quiet_ext (quiet_ext (quiet_ext Xok xform_Check.ok) xform_within.ok) xform_dot.ok) xform_dot_1.ok) (deep_none _) Try.func67 (by kernel_rfl) (sok_fn trivial) (by kernel_rfl) (fun x => by kernel_rfl)
end Go.Proofs.Pen

namespace Go.Proofs.Pen
open Go Go.Proofs
noncomputable def xform_Mesh.deeps : Deeps := { D := [22], C := [], frz := false, S := fun _ _ => noS }
theorem xform_Mesh.deepsOk : LoopsOK Try.prog xform_Mesh.deeps.S := (loops_none _)
noncomputable def xform_Mesh.tb : DTab := (tbExt tbNone 22 (freshD mesh_Check.q))
theorem xform_Mesh.tbOk : TBOK Try.prog xform_Mesh.tb := (tb_ext (tb_none _) (fresh_deep mesh_Check.okF))
def xform_Mesh.L0 : List (Nat × Lay) := [(2, .box TMove), (4, .box TMesh), (7, .obx [.own TP, .own TP]), (28, .val (.sl TP)), (29, .val TI), (30, .val TI)]
noncomputable def xform_Mesh.t0 (x : ((Int × Int × Int) × (Int × Int × Int) × (Int × Int × Int) × Int × Int × Int) × ((List (Int × Int × Int)) × List (Int × Int × Int)) × (List (Int × Int × Int) × List (Int × Int × Int) × Unit) × (List (Int × Int × Int)) × Int × Int × Unit) : T (Ex × ((Int × Int × Int) × (Int × Int × Int) × (Int × Int × Int) × Int × Int × Int) × ((List (Int × Int × Int)) × List (Int × Int × Int)) × (List (Int × Int × Int) × List (Int × Int × Int) × Unit) × (List (Int × Int × Int)) × Int × Int × Unit) := T.ite (decide (x.2.2.2.2.2.1 < x.2.2.2.2.1)) (T.opt (lget x.2.2.2.1 x.2.2.2.2.2.1) fun y => T.opt (xform_Apply (x.1, y)) fun y => T.ite (decide ((x.2.2.1.1.length + (1 : Nat)) * nat_lit 24 ≤ most)) (T.ret (Ex.normal, x.1, x.2.1, (List.take (x.2.2.1.1.length + (1 : Nat)) (List.take x.2.2.1.1.length x.2.2.1.1 ++ [y.1]), List.take x.2.2.1.2.1.length x.2.2.1.2.1, ()), x.2.2.2.1, x.2.2.2.2.1, W (x.2.2.2.2.2.1 + (1 : Int)), ())) T.fail) (T.ret (Ex.exit (0 : Nat), x.1, x.2.1, (List.take x.2.2.1.1.length x.2.2.1.1, List.take x.2.2.1.2.1.length x.2.2.1.2.1, ()), x.2.2.2.1, x.2.2.2.2.1, x.2.2.2.2.2.1, ()))
noncomputable def xform_Mesh.l0 (x : ((Int × Int × Int) × (Int × Int × Int) × (Int × Int × Int) × Int × Int × Int) × ((List (Int × Int × Int)) × List (Int × Int × Int)) × (List (Int × Int × Int) × List (Int × Int × Int) × Unit) × (List (Int × Int × Int)) × Int × Int × Unit) : Option (Ex × ((Int × Int × Int) × (Int × Int × Int) × (Int × Int × Int) × Int × Int × Int) × ((List (Int × Int × Int)) × List (Int × Int × Int)) × (List (Int × Int × Int) × List (Int × Int × Int) × Unit) × (List (Int × Int × Int)) × Int × Int × Unit) := (iterT xform_Mesh.t0 rounds x).run
theorem xform_Mesh.k0 : bodies 0 (lp Try.f36 []) = [.loop (loopIn 0 (lp Try.f36 []))] ∧ WP Try.prog 0 (.block 0 (.loop (loopIn 0 (lp Try.f36 [])))) (loopS xform_Mesh.L0 54 0 [.exit 0] xform_Mesh.l0) :=
  loop_tree (L := xform_Mesh.L0) (F := (dpT Try.prog (ext (ext (ext Xs 70 xform_Check.q) 67 xform_Apply.q) 107 xform_dot_1.q) xform_Mesh.deeps xform_Mesh.tb 100 8)) (D := (inL xform_Mesh.deeps.D)) (tab := []) (t := xform_Mesh.t0) mixed (dpT_ok mixed (quiet_ext (quiet_ext (quiet_ext Xok xform_Check.ok) xform_Apply.ok) xform_dot_1.ok) xform_Mesh.deepsOk xform_Mesh.tbOk 100 8).1 (dpT_ok mixed (quiet_ext (quiet_ext (quiet_ext Xok xform_Check.ok) xform_Apply.ok) xform_dot_1.ok) xform_Mesh.deepsOk xform_Mesh.tbOk 100 8).2 (fun _ => rfl) (by kernel_rfl) (by kernel_rfl) trivial (fun x => by kernel_rfl)
noncomputable def xform_Mesh.t (x : ((Int × Int × Int) × (Int × Int × Int) × (Int × Int × Int) × Int × Int × Int) × ((List (Int × Int × Int)) × List (Int × Int × Int))) : T (((List (Int × Int × Int)) × List (Int × Int × Int)) × Int) := T.opt (mesh_Check x.2) fun y => T.ite (y != (0 : Int)) (T.ret (([], []), y)) (T.ite (decide (List.length x.2.2 * nat_lit 24 ≤ most)) (T.opt (xform_Check x.1) fun y => T.ite (y != (0 : Int)) (T.ret (([], []), (3 : Int))) (T.opt (xform_Mesh.l0 (x.1, ([], []), ([], List.take (List.length x.2.2) x.2.2, ()), x.2.1, (↑(List.length x.2.1) : Int), (0 : Int), ())) fun y => T.ite (exEq y.1 (Ex.exit (0 : Nat))) (T.opt (mesh_Check (List.take y.2.2.2.1.1.length y.2.2.2.1.1, List.take y.2.2.2.1.2.1.length y.2.2.2.1.2.1)) fun y_1 => T.ite (y_1 != (0 : Int)) (T.ret (([], []), y_1)) (T.ret ((List.take y.2.2.2.1.1.length y.2.2.2.1.1, List.take y.2.2.2.1.2.1.length y.2.2.2.1.2.1), (0 : Int)))) T.fail)) T.fail)
noncomputable def xform_Mesh (x : ((Int × Int × Int) × (Int × Int × Int) × (Int × Int × Int) × Int × Int × Int) × ((List (Int × Int × Int)) × List (Int × Int × Int))) : Option (((List (Int × Int × Int)) × List (Int × Int × Int)) × Int) := (xform_Mesh.t x).run
noncomputable def xform_Mesh.q : List AV → T AV := entry [TMove, TMesh] (outR [TMesh, TI]) fun x => .opt (xform_Mesh x) .ret
theorem xform_Mesh.ok : FnOK Try.prog 36 xform_Mesh.q :=
  entry_call (ps := [TMove, TMesh]) (rs := [TMesh, TI]) (F := (dpT Try.prog (ext (ext (ext Xs 70 xform_Check.q) 67 xform_Apply.q) 107 xform_dot_1.q) xform_Mesh.deeps xform_Mesh.tb 100 8)) (D := (inL xform_Mesh.deeps.D)) (S := tabS [(0, loopS xform_Mesh.L0 54 0 [.exit 0] xform_Mesh.l0)]) (t := xform_Mesh.t) mixed (dpT_ok mixed (quiet_ext (quiet_ext (quiet_ext Xok xform_Check.ok) xform_Apply.ok) xform_dot_1.ok) xform_Mesh.deepsOk xform_Mesh.tbOk 100 8).1 (dpT_ok mixed (quiet_ext (quiet_ext (quiet_ext Xok xform_Check.ok) xform_Apply.ok) xform_dot_1.ok) xform_Mesh.deepsOk xform_Mesh.tbOk 100 8).2 Try.func36 (by kernel_rfl) (sok_fn ⟨xform_Mesh.k0, trivial⟩) (by kernel_rfl) (fun x => by kernel_rfl)
end Go.Proofs.Pen

namespace Go.Proofs.Pen
open Go Go.Proofs
noncomputable def ref46_Right.t (x : ((Int × Int × Int) × (Int × Int × Int) × (Int × Int × Int) × Int × Int × Int)) : T (Bool) := T.ite (decide (x.1.1 ≥ (-4096 : Int)) && decide (x.1.1 ≤ (4096 : Int)) && decide (x.1.2.1 ≥ (-4096 : Int)) && decide (x.1.2.1 ≤ (4096 : Int)) && decide (x.1.2.2 ≥ (-4096 : Int)) && decide (x.1.2.2 ≤ (4096 : Int))) (T.ite (decide (x.2.1.1 ≥ (-4096 : Int)) && decide (x.2.1.1 ≤ (4096 : Int)) && decide (x.2.1.2.1 ≥ (-4096 : Int)) && decide (x.2.1.2.1 ≤ (4096 : Int)) && decide (x.2.1.2.2 ≥ (-4096 : Int)) && decide (x.2.1.2.2 ≤ (4096 : Int))) (T.ite (decide (x.2.2.1.1 ≥ (-4096 : Int)) && decide (x.2.2.1.1 ≤ (4096 : Int)) && decide (x.2.2.1.2.1 ≥ (-4096 : Int)) && decide (x.2.2.1.2.1 ≤ (4096 : Int)) && decide (x.2.2.1.2.2 ≥ (-4096 : Int)) && decide (x.2.2.1.2.2 ≤ (4096 : Int))) (T.ret (decide (x.2.2.2.1 ≥ (-1048576 : Int)) && decide (x.2.2.2.1 ≤ (1048576 : Int)) && decide (x.2.2.2.2.1 ≥ (-1048576 : Int)) && decide (x.2.2.2.2.1 ≤ (1048576 : Int)) && decide (x.2.2.2.2.2 ≥ (-1048576 : Int)) && decide (x.2.2.2.2.2 ≤ (1048576 : Int)))) (T.ret false)) (T.ret false)) (T.ret false)
noncomputable def ref46_Right (x : ((Int × Int × Int) × (Int × Int × Int) × (Int × Int × Int) × Int × Int × Int)) : Option (Bool) := (ref46_Right.t x).run
noncomputable def ref46_Right.q : List AV → T AV := entry [TMove] (outR [.bool]) fun x => .opt (ref46_Right x) .ret
theorem ref46_Right.ok : FnOK Try.prog 37 ref46_Right.q :=
  entry_call (ps := [TMove]) (rs := [.bool]) (F := ({ quiet := (ext Xs 29 ref22_In.q), deep := noDeep } : Fns)) (D := D0) (S := tabS []) (t := ref46_Right.t) mixed (quiet_ext Xok ref22_In.ok) (deep_none _) Try.func37 (by kernel_rfl) (sok_fn trivial) (by kernel_rfl) (fun x => by kernel_rfl)
end Go.Proofs.Pen

namespace Go.Proofs.Pen
open Go Go.Proofs
noncomputable def ref46_by.t (x : (Int × Int × Int) × (Int × Int × Int)) : T (Int) := T.ret (W (W (W (x.1.1 * x.2.1) + W (x.1.2.1 * x.2.2.1)) + W (x.1.2.2 * x.2.2.2)))
noncomputable def ref46_by.q : List AV → T AV := entry [TP, TP] (outR [TI]) ref46_by.t
theorem ref46_by.ok : FnOK Try.prog 73 ref46_by.q :=
  entry_in (ps := [TP, TP]) (rs := [TI]) (F := ({ quiet := Xs, deep := noDeep } : Fns)) (D := D0) (S := tabS []) (t := ref46_by.t) mixed Xok (deep_none _) Try.func73 (by kernel_rfl) (sok_fn trivial) (by kernel_rfl) (fun x => by kernel_rfl)
end Go.Proofs.Pen

namespace Go.Proofs.Pen
open Go Go.Proofs
noncomputable def ref46_down.t (x : Int) : T (Int) := T.ite (decide (Int.tmod x (1024 : Int) < (0 : Int))) (T.ret (W (W (Int.tdiv x (1024 : Int)) - (1 : Int)))) (T.ret (W (Int.tdiv x (1024 : Int))))
noncomputable def ref46_down (x : Int) : Option (Int) := (ref46_down.t x).run
noncomputable def ref46_down.q : List AV → T AV := entry [TI] (outR [TI]) fun x => .opt (ref46_down x) .ret
theorem ref46_down.ok : FnOK Try.prog 72 ref46_down.q :=
  entry_call (ps := [TI]) (rs := [TI]) (F := ({ quiet := Xs, deep := noDeep } : Fns)) (D := D0) (S := tabS []) (t := ref46_down.t) mixed Xok (deep_none _) Try.func72 (by kernel_rfl) (sok_fn trivial) (by kernel_rfl) (fun x => by kernel_rfl)
end Go.Proofs.Pen

namespace Go.Proofs.Pen
open Go Go.Proofs
noncomputable def ref46_Apply.t (x : ((Int × Int × Int) × (Int × Int × Int) × (Int × Int × Int) × Int × Int × Int) × (Int × Int × Int)) : T ((Int × Int × Int)) := T.opt (ref46_down (W (W (W (x.1.1.1 * x.2.1) + W (x.1.1.2.1 * x.2.2.1)) + W (x.1.1.2.2 * x.2.2.2)))) fun y => T.opt (ref46_down (W (W (W (x.1.2.1.1 * x.2.1) + W (x.1.2.1.2.1 * x.2.2.1)) + W (x.1.2.1.2.2 * x.2.2.2)))) fun y_1 => T.opt (ref46_down (W (W (W (x.1.2.2.1.1 * x.2.1) + W (x.1.2.2.1.2.1 * x.2.2.1)) + W (x.1.2.2.1.2.2 * x.2.2.2)))) fun y_2 => T.ret (W (y + x.1.2.2.2.1), W (y_1 + x.1.2.2.2.2.1), W (y_2 + x.1.2.2.2.2.2))
noncomputable def ref46_Apply (x : ((Int × Int × Int) × (Int × Int × Int) × (Int × Int × Int) × Int × Int × Int) × (Int × Int × Int)) : Option ((Int × Int × Int)) := (ref46_Apply.t x).run
noncomputable def ref46_Apply.q : List AV → T AV := entry [TMove, TP] (outR [TP]) fun x => .opt (ref46_Apply x) .ret
theorem ref46_Apply.ok : FnOK Try.prog 38 ref46_Apply.q :=
  entry_call (ps := [TMove, TP]) (rs := [TP]) (F := ({ quiet := (ext (ext Xs 73 ref46_by.q) 72 ref46_down.q), deep := noDeep } : Fns)) (D := D0) (S := tabS []) (t := ref46_Apply.t) mixed (quiet_ext (quiet_ext Xok ref46_by.ok) ref46_down.ok) (deep_none _) Try.func38 (by kernel_rfl) (sok_fn trivial) (by kernel_rfl) (fun x => by kernel_rfl)
end Go.Proofs.Pen

namespace Go.Proofs.Pen
open Go Go.Proofs
noncomputable def xform_Scale.t (x : Int) : T (((Int × Int × Int) × (Int × Int × Int) × (Int × Int × Int) × Int × Int × Int)) := T.ret ((x, (0 : Int), (0 : Int)), ((0 : Int), x, (0 : Int)), ((0 : Int), (0 : Int), x), (0 : Int), (0 : Int), (0 : Int))
noncomputable def xform_Scale.q : List AV → T AV := entry [TI] (outR [TMove]) xform_Scale.t
theorem xform_Scale.ok : FnOK Try.prog 68 xform_Scale.q :=
  entry_in (ps := [TI]) (rs := [TMove]) (F := ({ quiet := Xs, deep := noDeep } : Fns)) (D := D0) (S := tabS []) (t := xform_Scale.t) mixed Xok (deep_none _) Try.func68 (by kernel_rfl) (sok_fn trivial) (by kernel_rfl) (fun x => by kernel_rfl)
end Go.Proofs.Pen

namespace Go.Proofs.Pen
open Go Go.Proofs
noncomputable def xform_One.t (_ : Unit) : T (((Int × Int × Int) × (Int × Int × Int) × (Int × Int × Int) × Int × Int × Int)) := T.ret (((1024 : Int), (0 : Int), (0 : Int)), ((0 : Int), (1024 : Int), (0 : Int)), ((0 : Int), (0 : Int), (1024 : Int)), (0 : Int), (0 : Int), (0 : Int))
noncomputable def xform_One.q : List AV → T AV := entry [] (outR [TMove]) xform_One.t
theorem xform_One.ok : FnOK Try.prog 71 xform_One.q :=
  entry_in (ps := []) (rs := [TMove]) (F := ({ quiet := (ext Xs 68 xform_Scale.q), deep := noDeep } : Fns)) (D := D0) (S := tabS []) (t := xform_One.t) mixed (quiet_ext Xok xform_Scale.ok) (deep_none _) Try.func71 (by kernel_rfl) (sok_fn trivial) (by kernel_rfl) (fun x => by kernel_rfl)
end Go.Proofs.Pen

namespace Go.Proofs.Pen
open Go Go.Proofs
noncomputable def xform_turn_1.t (x : (Int × Int × Int)) : T ((Int × Int × Int)) := T.ret (W ((0 : Int) - x.1), W ((0 : Int) - x.2.1), W ((0 : Int) - x.2.2))
noncomputable def xform_turn_1.q : List AV → T AV := entry [TP] (outR [TP]) xform_turn_1.t
theorem xform_turn_1.ok : FnOK Try.prog 99 xform_turn_1.q :=
  entry_in (ps := [TP]) (rs := [TP]) (F := ({ quiet := Xs, deep := noDeep } : Fns)) (D := D0) (S := tabS []) (t := xform_turn_1.t) mixed Xok (deep_none _) Try.func99 (by kernel_rfl) (sok_fn trivial) (by kernel_rfl) (fun x => by kernel_rfl)
end Go.Proofs.Pen

namespace Go.Proofs.Pen
open Go Go.Proofs
noncomputable def xform_turn.t (x : Int) : T (((Int × Int × Int) × (Int × Int × Int) × (Int × Int × Int) × Int × Int × Int)) := T.ite (x == (0 : Int)) (T.ret (((1024 : Int), (0 : Int), (0 : Int)), (W ((0 : Int) - (0 : Int)), W ((0 : Int) - (0 : Int)), W ((0 : Int) - (1024 : Int))), ((0 : Int), (1024 : Int), (0 : Int)), (0 : Int), (0 : Int), (0 : Int))) (T.ite (x == (1 : Int)) (T.ret (((0 : Int), (0 : Int), (1024 : Int)), ((0 : Int), (1024 : Int), (0 : Int)), (W ((0 : Int) - (1024 : Int)), W ((0 : Int) - (0 : Int)), W ((0 : Int) - (0 : Int))), (0 : Int), (0 : Int), (0 : Int))) (T.ret ((W ((0 : Int) - (0 : Int)), W ((0 : Int) - (1024 : Int)), W ((0 : Int) - (0 : Int))), ((1024 : Int), (0 : Int), (0 : Int)), ((0 : Int), (0 : Int), (1024 : Int)), (0 : Int), (0 : Int), (0 : Int))))
noncomputable def xform_turn (x : Int) : Option (((Int × Int × Int) × (Int × Int × Int) × (Int × Int × Int) × Int × Int × Int)) := (xform_turn.t x).run
noncomputable def xform_turn.q : List AV → T AV := entry [TI] (outR [TMove]) fun x => .opt (xform_turn x) .ret
theorem xform_turn.ok : FnOK Try.prog 75 xform_turn.q :=
  entry_call (ps := [TI]) (rs := [TMove]) (F := ({ quiet := (ext Xs 99 xform_turn_1.q), deep := noDeep } : Fns)) (D := D0) (S := tabS []) (t := xform_turn.t) mixed (quiet_ext Xok xform_turn_1.ok) (deep_none _) Try.func75 (by kernel_rfl) (sok_fn trivial) (by kernel_rfl) (fun x => by kernel_rfl)
end Go.Proofs.Pen

namespace Go.Proofs.Pen
open Go Go.Proofs
def xform_Exact.L0 : List (Nat × Lay) := [(2, .val .bool), (14, .row TP), (15, .val TI), (16, .val TI)]
noncomputable def xform_Exact.t0 (x : Bool × List (Int × Int × Int) × Int × Int × Unit) : T (Ex × Bool × List (Int × Int × Int) × Int × Int × Unit) := T.ite (decide (x.2.2.2.1 < x.2.2.1)) (T.ite (decide ((0 : Int) ≤ x.2.2.2.1) && decide (x.2.2.2.1 < (↑x.2.1.length : Int))) (T.opt x.2.1[(0 : Nat) + Int.toNat x.2.2.2.1]? fun y => T.ite (!(y.1 == W (W (Int.tdiv y.1 (1024 : Int)) * (1024 : Int)) && (y.2.1 == W (W (Int.tdiv y.2.1 (1024 : Int)) * (1024 : Int)) && y.2.2 == W (W (Int.tdiv y.2.2 (1024 : Int)) * (1024 : Int))))) (T.ret (Ex.ret, false, List.take x.2.1.length x.2.1, x.2.2.1, x.2.2.2.1, ())) (T.ret (Ex.normal, x.1, List.take x.2.1.length x.2.1, x.2.2.1, W (x.2.2.2.1 + (1 : Int)), ()))) T.fail) (T.ret (Ex.exit (0 : Nat), x.1, List.take x.2.1.length x.2.1, x.2.2.1, x.2.2.2.1, ()))
noncomputable def xform_Exact.l0 (x : Bool × List (Int × Int × Int) × Int × Int × Unit) : Option (Ex × Bool × List (Int × Int × Int) × Int × Int × Unit) := (iterT xform_Exact.t0 rounds x).run
theorem xform_Exact.k0 : bodies 0 (lp Try.f69 []) = [.loop (loopIn 0 (lp Try.f69 []))] ∧ WP Try.prog 0 (.block 0 (.loop (loopIn 0 (lp Try.f69 [])))) (loopS xform_Exact.L0 36 0 [.exit 0, .ret] xform_Exact.l0) :=
  loop_tree (L := xform_Exact.L0) (F := ({ quiet := (ext Xs 70 xform_Check.q), deep := noDeep } : Fns)) (D := D0) (tab := []) (t := xform_Exact.t0) mixed (quiet_ext Xok xform_Check.ok) (deep_none _) (fun _ => rfl) (by kernel_rfl) (by kernel_rfl) trivial (fun x => by kernel_rfl)
noncomputable def xform_Exact.t (x : ((Int × Int × Int) × (Int × Int × Int) × (Int × Int × Int) × Int × Int × Int)) : T (Bool) := T.opt (xform_Check x) fun y => T.ite (y != (0 : Int)) (T.ret false) (T.opt (xform_Exact.l0 (false, List.take (3 : Nat) [x.1, x.2.1, x.2.2.1], (↑(3 : Nat) : Int), (0 : Int), ())) fun y => T.ite (exEq y.1 (Ex.exit (0 : Nat))) (T.ret true) (T.ite (exEq y.1 Ex.ret) (T.ret y.2.1) T.fail))
noncomputable def xform_Exact (x : ((Int × Int × Int) × (Int × Int × Int) × (Int × Int × Int) × Int × Int × Int)) : Option (Bool) := (xform_Exact.t x).run
noncomputable def xform_Exact.q : List AV → T AV := entry [TMove] (outR [.bool]) fun x => .opt (xform_Exact x) .ret
theorem xform_Exact.ok : FnOK Try.prog 69 xform_Exact.q :=
  entry_call (ps := [TMove]) (rs := [.bool]) (F := ({ quiet := (ext Xs 70 xform_Check.q), deep := noDeep } : Fns)) (D := D0) (S := tabS [(0, loopS xform_Exact.L0 36 0 [.exit 0, .ret] xform_Exact.l0)]) (t := xform_Exact.t) mixed (quiet_ext Xok xform_Check.ok) (deep_none _) Try.func69 (by kernel_rfl) (sok_fn ⟨xform_Exact.k0, trivial⟩) (by kernel_rfl) (fun x => by kernel_rfl)
end Go.Proofs.Pen

namespace Go.Proofs.Pen
open Go Go.Proofs
noncomputable def xform_column.t (x : ((Int × Int × Int) × (Int × Int × Int) × (Int × Int × Int) × Int × Int × Int) × Int) : T ((Int × Int × Int)) := T.ite (x.2 == (0 : Int)) (T.ret (x.1.1.1, x.1.2.1.1, x.1.2.2.1.1)) (T.ite (x.2 == (1 : Int)) (T.ret (x.1.1.2.1, x.1.2.1.2.1, x.1.2.2.1.2.1)) (T.ret (x.1.1.2.2, x.1.2.1.2.2, x.1.2.2.1.2.2)))
noncomputable def xform_column (x : ((Int × Int × Int) × (Int × Int × Int) × (Int × Int × Int) × Int × Int × Int) × Int) : Option ((Int × Int × Int)) := (xform_column.t x).run
noncomputable def xform_column.q : List AV → T AV := entry [TMove, TI] (outR [TP]) fun x => .opt (xform_column x) .ret
theorem xform_column.ok : FnOK Try.prog 97 xform_column.q :=
  entry_call (ps := [TMove, TI]) (rs := [TP]) (F := ({ quiet := Xs, deep := noDeep } : Fns)) (D := D0) (S := tabS []) (t := xform_column.t) mixed Xok (deep_none _) Try.func97 (by kernel_rfl) (sok_fn trivial) (by kernel_rfl) (fun x => by kernel_rfl)
end Go.Proofs.Pen

namespace Go.Proofs.Pen
open Go Go.Proofs
noncomputable def xform_Then_1.t (x : (Int × Int × Int) × (Int × Int × Int) × (Int × Int × Int) × (Int × Int × Int)) : T ((Int × Int × Int)) := T.opt (xform_dot_1 (x.1, x.2.1)) fun y => T.opt (xform_dot_1 (x.1, x.2.2.1)) fun y_1 => T.opt (xform_dot_1 (x.1, x.2.2.2)) fun y_2 => T.ret (y, y_1, y_2)
noncomputable def xform_Then_1 (x : (Int × Int × Int) × (Int × Int × Int) × (Int × Int × Int) × (Int × Int × Int)) : Option ((Int × Int × Int)) := (xform_Then_1.t x).run
noncomputable def xform_Then_1.q : List AV → T AV := entry [TP, (.ptr (.clo 107 (.ptr TP))), (.ptr (.clo 107 (.ptr TP))), (.ptr (.clo 107 (.ptr TP)))] (outR [TP]) fun x => .opt (xform_Then_1 x) .ret
theorem xform_Then_1.ok : FnOK Try.prog 98 xform_Then_1.q :=
  entry_call (ps := [TP, (.ptr (.clo 107 (.ptr TP))), (.ptr (.clo 107 (.ptr TP))), (.ptr (.clo 107 (.ptr TP)))]) (rs := [TP]) (F := ({ quiet := (ext Xs 107 xform_dot_1.q), deep := noDeep } : Fns)) (D := D0) (S := tabS []) (t := xform_Then_1.t) mixed (quiet_ext Xok xform_dot_1.ok) (deep_none _) Try.func98 (by kernel_rfl) (sok_fn trivial) (by kernel_rfl) (fun x => by kernel_rfl)
end Go.Proofs.Pen

namespace Go.Proofs.Pen
open Go Go.Proofs
noncomputable def xform_Then.t (x : ((Int × Int × Int) × (Int × Int × Int) × (Int × Int × Int) × Int × Int × Int) × ((Int × Int × Int) × (Int × Int × Int) × (Int × Int × Int) × Int × Int × Int)) : T (((Int × Int × Int) × (Int × Int × Int) × (Int × Int × Int) × Int × Int × Int) × Int) := T.opt (xform_Exact x.1) fun y => T.ite (!y) (T.ret ((((0 : Int), (0 : Int), (0 : Int)), ((0 : Int), (0 : Int), (0 : Int)), ((0 : Int), (0 : Int), (0 : Int)), (0 : Int), (0 : Int), (0 : Int)), (3 : Int))) (T.opt (xform_Exact x.2) fun y => T.ite (!y) (T.ret ((((0 : Int), (0 : Int), (0 : Int)), ((0 : Int), (0 : Int), (0 : Int)), ((0 : Int), (0 : Int), (0 : Int)), (0 : Int), (0 : Int), (0 : Int)), (3 : Int))) (T.opt (xform_column (x.2, (0 : Int))) fun y => T.opt (xform_column (x.2, (1 : Int))) fun y_1 => T.opt (xform_column (x.2, (2 : Int))) fun y_2 => T.opt (xform_Apply (x.1, x.2.2.2.2)) fun y_3 => T.opt (xform_Then_1 (x.1.1, y, y_1, y_2)) fun y_4 => T.opt (xform_Then_1 (x.1.2.1, y, y_1, y_2)) fun y_5 => T.opt (xform_Then_1 (x.1.2.2.1, y, y_1, y_2)) fun y => T.opt (xform_Check (y_4, y_5, y, y_3.fst)) fun y_6 => T.ite (y_6 != (0 : Int)) (T.ret ((((0 : Int), (0 : Int), (0 : Int)), ((0 : Int), (0 : Int), (0 : Int)), ((0 : Int), (0 : Int), (0 : Int)), (0 : Int), (0 : Int), (0 : Int)), (3 : Int))) (T.ret ((y_4, y_5, y, y_3.fst), (0 : Int)))))
noncomputable def xform_Then (x : ((Int × Int × Int) × (Int × Int × Int) × (Int × Int × Int) × Int × Int × Int) × ((Int × Int × Int) × (Int × Int × Int) × (Int × Int × Int) × Int × Int × Int)) : Option (((Int × Int × Int) × (Int × Int × Int) × (Int × Int × Int) × Int × Int × Int) × Int) := (xform_Then.t x).run
noncomputable def xform_Then.q : List AV → T AV := entry [TMove, TMove] (outR [TMove, TI]) fun x => .opt (xform_Then x) .ret
theorem xform_Then.ok : FnOK Try.prog 74 xform_Then.q :=
  entry_call (ps := [TMove, TMove]) (rs := [TMove, TI]) (F := ({ quiet := (ext (ext (ext (ext (ext (ext (ext Xs 69 xform_Exact.q) 97 xform_column.q) 96 xform_dot.q) 98 xform_Then_1.q) 67 xform_Apply.q) 70 xform_Check.q) 107 xform_dot_1.q), deep := noDeep } : Fns)) (D := D0) (S := tabS []) (t := xform_Then.t) mixed (quiet_ext (quiet_ext (quiet_ext (quiet_ext (quiet_ext (quiet_ext (quiet_ext Xok xform_Exact.ok) xform_column.ok) xform_dot.ok) xform_Then_1.ok) xform_Apply.ok) xform_Check.ok) xform_dot_1.ok) (deep_none _) Try.func74 (by kernel_rfl) (sok_fn trivial) (by kernel_rfl) (fun x => by kernel_rfl)
end Go.Proofs.Pen

namespace Go.Proofs.Pen
open Go Go.Proofs
def xform_Quarter.L0 : List (Nat × Lay) := [(0, .val TI), (4, .box TMove), (6, .box TMove), (18, .val TI), (19, .val TI)]
noncomputable def xform_Quarter.t0 (x : Int × ((Int × Int × Int) × (Int × Int × Int) × (Int × Int × Int) × Int × Int × Int) × ((Int × Int × Int) × (Int × Int × Int) × (Int × Int × Int) × Int × Int × Int) × Int × Int × Unit) : T (Ex × Int × ((Int × Int × Int) × (Int × Int × Int) × (Int × Int × Int) × Int × Int × Int) × ((Int × Int × Int) × (Int × Int × Int) × (Int × Int × Int) × Int × Int × Int) × Int × Int × Unit) := T.ite (decide (x.2.2.2.2.1 < x.2.2.2.1)) (T.opt (xform_turn x.1) fun y => T.opt (xform_Then (y, x.2.2.1)) fun y => T.ret (Ex.normal, x.1, x.2.1, y.1, x.2.2.2.1, W (x.2.2.2.2.1 + (1 : Int)), ())) (T.ret (Ex.exit (0 : Nat), x.1, x.2.1, x.2.2.1, x.2.2.2.1, x.2.2.2.2.1, ()))
noncomputable def xform_Quarter.l0 (x : Int × ((Int × Int × Int) × (Int × Int × Int) × (Int × Int × Int) × Int × Int × Int) × ((Int × Int × Int) × (Int × Int × Int) × (Int × Int × Int) × Int × Int × Int) × Int × Int × Unit) : Option (Ex × Int × ((Int × Int × Int) × (Int × Int × Int) × (Int × Int × Int) × Int × Int × Int) × ((Int × Int × Int) × (Int × Int × Int) × (Int × Int × Int) × Int × Int × Int) × Int × Int × Unit) := (iterT xform_Quarter.t0 rounds x).run
theorem xform_Quarter.k0 : bodies 0 (lp Try.f39 []) = [.loop (loopIn 0 (lp Try.f39 []))] ∧ WP Try.prog 0 (.block 0 (.loop (loopIn 0 (lp Try.f39 [])))) (loopS xform_Quarter.L0 30 0 [.exit 0] xform_Quarter.l0) :=
  loop_tree (L := xform_Quarter.L0) (F := ({ quiet := (ext (ext (ext (ext (ext (ext Xs 71 xform_One.q) 75 xform_turn.q) 74 xform_Then.q) 98 xform_Then_1.q) 99 xform_turn_1.q) 107 xform_dot_1.q), deep := noDeep } : Fns)) (D := D0) (tab := []) (t := xform_Quarter.t0) mixed (quiet_ext (quiet_ext (quiet_ext (quiet_ext (quiet_ext (quiet_ext Xok xform_One.ok) xform_turn.ok) xform_Then.ok) xform_Then_1.ok) xform_turn_1.ok) xform_dot_1.ok) (deep_none _) (fun _ => rfl) (by kernel_rfl) (by kernel_rfl) trivial (fun x => by kernel_rfl)
noncomputable def xform_Quarter.t (x : Int × Int) : T (((Int × Int × Int) × (Int × Int × Int) × (Int × Int × Int) × Int × Int × Int) × Int) := T.ite (decide (x.1 < (0 : Int)) || decide (x.1 > (2 : Int))) (T.ret ((((0 : Int), (0 : Int), (0 : Int)), ((0 : Int), (0 : Int), (0 : Int)), ((0 : Int), (0 : Int), (0 : Int)), (0 : Int), (0 : Int), (0 : Int)), (2 : Int))) (T.opt (xform_Quarter.l0 (x.1, (((0 : Int), (0 : Int), (0 : Int)), ((0 : Int), (0 : Int), (0 : Int)), ((0 : Int), (0 : Int), (0 : Int)), (0 : Int), (0 : Int), (0 : Int)), (((1024 : Int), (0 : Int), (0 : Int)), ((0 : Int), (1024 : Int), (0 : Int)), ((0 : Int), (0 : Int), (1024 : Int)), (0 : Int), (0 : Int), (0 : Int)), (W (Int.tmod x.2 (4 : Int) + (4 : Int))).tmod (4 : Int), (0 : Int), ())) fun y => T.ite (exEq y.1 (Ex.exit (0 : Nat))) (T.ret (y.2.2.2.1, (0 : Int))) T.fail)
noncomputable def xform_Quarter (x : Int × Int) : Option (((Int × Int × Int) × (Int × Int × Int) × (Int × Int × Int) × Int × Int × Int) × Int) := (xform_Quarter.t x).run
noncomputable def xform_Quarter.q : List AV → T AV := entry [TI, TI] (outR [TMove, TI]) fun x => .opt (xform_Quarter x) .ret
theorem xform_Quarter.ok : FnOK Try.prog 39 xform_Quarter.q :=
  entry_call (ps := [TI, TI]) (rs := [TMove, TI]) (F := ({ quiet := (ext (ext (ext (ext (ext (ext Xs 71 xform_One.q) 75 xform_turn.q) 74 xform_Then.q) 98 xform_Then_1.q) 99 xform_turn_1.q) 107 xform_dot_1.q), deep := noDeep } : Fns)) (D := D0) (S := tabS [(0, loopS xform_Quarter.L0 30 0 [.exit 0] xform_Quarter.l0)]) (t := xform_Quarter.t) mixed (quiet_ext (quiet_ext (quiet_ext (quiet_ext (quiet_ext (quiet_ext Xok xform_One.ok) xform_turn.ok) xform_Then.ok) xform_Then_1.ok) xform_turn_1.ok) xform_dot_1.ok) (deep_none _) Try.func39 (by kernel_rfl) (sok_fn ⟨xform_Quarter.k0, trivial⟩) (by kernel_rfl) (fun x => by kernel_rfl)
end Go.Proofs.Pen

namespace Go.Proofs.Pen
open Go Go.Proofs
noncomputable def xform_Shift.t (x : (Int × Int × Int)) : T (((Int × Int × Int) × (Int × Int × Int) × (Int × Int × Int) × Int × Int × Int)) := T.ret (((1024 : Int), (0 : Int), (0 : Int)), ((0 : Int), (1024 : Int), (0 : Int)), ((0 : Int), (0 : Int), (1024 : Int)), x)
noncomputable def xform_Shift.q : List AV → T AV := entry [TP] (outR [TMove]) xform_Shift.t
theorem xform_Shift.ok : FnOK Try.prog 40 xform_Shift.q :=
  entry_in (ps := [TP]) (rs := [TMove]) (F := ({ quiet := (ext Xs 71 xform_One.q), deep := noDeep } : Fns)) (D := D0) (S := tabS []) (t := xform_Shift.t) mixed (quiet_ext Xok xform_One.ok) (deep_none _) Try.func40 (by kernel_rfl) (sok_fn trivial) (by kernel_rfl) (fun x => by kernel_rfl)
end Go.Proofs.Pen

namespace Go.Proofs.Pen
open Go Go.Proofs
noncomputable def law46_XformMeshes.deeps : Deeps := { D := [21], C := [], frz := false, S := fun _ _ => noS }
theorem law46_XformMeshes.deepsOk : LoopsOK Try.prog law46_XformMeshes.deeps.S := (loops_none _)
noncomputable def law46_XformMeshes.tb : DTab := (tbExt tbNone 21 (freshD ref45_Check.q))
theorem law46_XformMeshes.tbOk : TBOK Try.prog law46_XformMeshes.tb := (tb_ext (tb_none _) (fresh_deep ref45_Check.okF))
def law46_XformMeshes.L0 : List (Nat × Lay) := [(2, .val .bool), (3, .box TMove), (4, .box TMesh), (5, .val (.int .u8)), (6, .val TI), (7, .box TMesh), (8, .val TI), (10, .obx [.own TP, .dat (.sl TP)]), (11, .val .bool), (12, .val TI)]
noncomputable def law46_XformMeshes.t0 (x : Bool × ((Int × Int × Int) × (Int × Int × Int) × (Int × Int × Int) × Int × Int × Int) × ((List (Int × Int × Int)) × List (Int × Int × Int)) × Int × Int × ((List (Int × Int × Int)) × List (Int × Int × Int)) × Int × (List (Int × Int × Int) × (List (Int × Int × Int)) × Unit) × Bool × Int × Unit) : T (Ex × Bool × ((Int × Int × Int) × (Int × Int × Int) × (Int × Int × Int) × Int × Int × Int) × ((List (Int × Int × Int)) × List (Int × Int × Int)) × Int × Int × ((List (Int × Int × Int)) × List (Int × Int × Int)) × Int × (List (Int × Int × Int) × (List (Int × Int × Int)) × Unit) × Bool × Int × Unit) := T.ite (decide (x.2.2.2.2.2.2.2.2.2.1 < (↑(List.length x.2.2.1.1) : Int))) (T.opt (lget x.2.2.1.1 x.2.2.2.2.2.2.2.2.2.1) fun y => T.opt (ref46_Apply (x.2.1, y)) fun y => T.ite (decide ((x.2.2.2.2.2.2.2.1.1.length + (1 : Nat)) * nat_lit 24 ≤ most)) (T.ite x.2.2.2.2.2.2.2.2.1 (T.opt (lget x.2.2.1.1 x.2.2.2.2.2.2.2.2.2.1) fun y_1 => T.ret (Ex.normal, x.1, x.2.1, x.2.2.1, x.2.2.2.1, x.2.2.2.2.1, x.2.2.2.2.2.1, x.2.2.2.2.2.2.1, (List.take (x.2.2.2.2.2.2.2.1.1.length + (1 : Nat)) (List.take x.2.2.2.2.2.2.2.1.1.length x.2.2.2.2.2.2.2.1.1 ++ [y]), x.2.2.2.2.2.2.2.1.2.1, ()), decide (y_1.fst ≥ (-60000 : Int)) && decide (y_1.fst ≤ (60000 : Int)) && decide (y_1.snd.fst ≥ (-60000 : Int)) && decide (y_1.snd.fst ≤ (60000 : Int)) && decide (y_1.snd.snd ≥ (-60000 : Int)) && decide (y_1.snd.snd ≤ (60000 : Int)), W (x.2.2.2.2.2.2.2.2.2.1 + (1 : Int)), ())) (T.ret (Ex.normal, x.1, x.2.1, x.2.2.1, x.2.2.2.1, x.2.2.2.2.1, x.2.2.2.2.2.1, x.2.2.2.2.2.2.1, (List.take (x.2.2.2.2.2.2.2.1.1.length + (1 : Nat)) (List.take x.2.2.2.2.2.2.2.1.1.length x.2.2.2.2.2.2.2.1.1 ++ [y]), x.2.2.2.2.2.2.2.1.2.1, ()), false, W (x.2.2.2.2.2.2.2.2.2.1 + (1 : Int)), ()))) T.fail) (T.ret (Ex.exit (0 : Nat), x.1, x.2.1, x.2.2.1, x.2.2.2.1, x.2.2.2.2.1, x.2.2.2.2.2.1, x.2.2.2.2.2.2.1, (List.take x.2.2.2.2.2.2.2.1.1.length x.2.2.2.2.2.2.2.1.1, x.2.2.2.2.2.2.2.1.2.1, ()), x.2.2.2.2.2.2.2.2.1, x.2.2.2.2.2.2.2.2.2.1, ()))
noncomputable def law46_XformMeshes.l0 (x : Bool × ((Int × Int × Int) × (Int × Int × Int) × (Int × Int × Int) × Int × Int × Int) × ((List (Int × Int × Int)) × List (Int × Int × Int)) × Int × Int × ((List (Int × Int × Int)) × List (Int × Int × Int)) × Int × (List (Int × Int × Int) × (List (Int × Int × Int)) × Unit) × Bool × Int × Unit) : Option (Ex × Bool × ((Int × Int × Int) × (Int × Int × Int) × (Int × Int × Int) × Int × Int × Int) × ((List (Int × Int × Int)) × List (Int × Int × Int)) × Int × Int × ((List (Int × Int × Int)) × List (Int × Int × Int)) × Int × (List (Int × Int × Int) × (List (Int × Int × Int)) × Unit) × Bool × Int × Unit) := (iterT law46_XformMeshes.t0 rounds x).run
theorem law46_XformMeshes.k0 : bodies 0 (lp Try.f8 []) = [.loop (loopIn 0 (lp Try.f8 []))] ∧ WP Try.prog 0 (.block 0 (.loop (loopIn 0 (lp Try.f8 [])))) (loopS law46_XformMeshes.L0 203 0 [.exit 0] law46_XformMeshes.l0) :=
  loop_tree (L := law46_XformMeshes.L0) (F := (dpT Try.prog (ext (ext (ext (ext (ext (ext (ext (ext (ext (ext (ext (ext Xs 35 law46_awake.q) 36 xform_Mesh.q) 37 ref46_Right.q) 38 ref46_Apply.q) 29 ref22_In.q) 39 xform_Quarter.q) 24 mesh_Closed.q) 40 xform_Shift.q) 33 ref45_Volume.q) 98 xform_Then_1.q) 99 xform_turn_1.q) 107 xform_dot_1.q) law46_XformMeshes.deeps law46_XformMeshes.tb 100 8)) (D := (inL law46_XformMeshes.deeps.D)) (tab := []) (t := law46_XformMeshes.t0) mixed (dpT_ok mixed (quiet_ext (quiet_ext (quiet_ext (quiet_ext (quiet_ext (quiet_ext (quiet_ext (quiet_ext (quiet_ext (quiet_ext (quiet_ext (quiet_ext Xok law46_awake.ok) xform_Mesh.ok) ref46_Right.ok) ref46_Apply.ok) ref22_In.ok) xform_Quarter.ok) mesh_Closed.ok) xform_Shift.ok) ref45_Volume.ok) xform_Then_1.ok) xform_turn_1.ok) xform_dot_1.ok) law46_XformMeshes.deepsOk law46_XformMeshes.tbOk 100 8).1 (dpT_ok mixed (quiet_ext (quiet_ext (quiet_ext (quiet_ext (quiet_ext (quiet_ext (quiet_ext (quiet_ext (quiet_ext (quiet_ext (quiet_ext (quiet_ext Xok law46_awake.ok) xform_Mesh.ok) ref46_Right.ok) ref46_Apply.ok) ref22_In.ok) xform_Quarter.ok) mesh_Closed.ok) xform_Shift.ok) ref45_Volume.ok) xform_Then_1.ok) xform_turn_1.ok) xform_dot_1.ok) law46_XformMeshes.deepsOk law46_XformMeshes.tbOk 100 8).2 (fun _ => rfl) (by kernel_rfl) (by kernel_rfl) trivial (fun x => by kernel_rfl)
def law46_XformMeshes.L2 : List (Nat × Lay) := [(2, .val .bool), (4, .box TMesh), (5, .val (.int .u8)), (6, .val TI), (7, .box TMesh), (8, .val TI), (10, .obx [.own TP, .dat (.sl TP)]), (11, .val .bool), (14, .val TI)]
noncomputable def law46_XformMeshes.t2 (x : Bool × ((List (Int × Int × Int)) × List (Int × Int × Int)) × Int × Int × ((List (Int × Int × Int)) × List (Int × Int × Int)) × Int × (List (Int × Int × Int) × (List (Int × Int × Int)) × Unit) × Bool × Int × Unit) : T (Ex × Bool × ((List (Int × Int × Int)) × List (Int × Int × Int)) × Int × Int × ((List (Int × Int × Int)) × List (Int × Int × Int)) × Int × (List (Int × Int × Int) × (List (Int × Int × Int)) × Unit) × Bool × Int × Unit) := T.ite (decide (x.2.2.2.2.2.2.2.2.1 < (↑x.2.2.2.2.2.2.1.1.length : Int))) (T.ite (x.2.2.2.2.2.1 != (0 : Int) || (↑(List.length x.2.2.2.2.1.1) : Int) != (↑x.2.2.2.2.2.2.1.1.length : Int)) (T.ret (Ex.ret, false, x.2.1, x.2.2.1, x.2.2.2.1, x.2.2.2.2.1, x.2.2.2.2.2.1, (List.take x.2.2.2.2.2.2.1.1.length x.2.2.2.2.2.2.1.1, x.2.2.2.2.2.2.1.2.1, ()), x.2.2.2.2.2.2.2.1, x.2.2.2.2.2.2.2.2.1, ())) (T.opt (lget x.2.2.2.2.1.1 x.2.2.2.2.2.2.2.2.1) fun y => T.ite (decide ((0 : Int) ≤ x.2.2.2.2.2.2.2.2.1) && decide (x.2.2.2.2.2.2.2.2.1 < (↑x.2.2.2.2.2.2.1.1.length : Int))) (T.opt x.2.2.2.2.2.2.1.1[(0 : Nat) + Int.toNat x.2.2.2.2.2.2.2.2.1]? fun y_1 => T.ite (!(y.1 == y_1.fst && (y.2.1 == y_1.snd.fst && y.2.2 == y_1.snd.snd))) (T.ret (Ex.ret, false, x.2.1, x.2.2.1, x.2.2.2.1, x.2.2.2.2.1, x.2.2.2.2.2.1, (List.take x.2.2.2.2.2.2.1.1.length x.2.2.2.2.2.2.1.1, x.2.2.2.2.2.2.1.2.1, ()), x.2.2.2.2.2.2.2.1, x.2.2.2.2.2.2.2.2.1, ())) (T.ret (Ex.normal, x.1, x.2.1, x.2.2.1, x.2.2.2.1, x.2.2.2.2.1, x.2.2.2.2.2.1, (List.take x.2.2.2.2.2.2.1.1.length x.2.2.2.2.2.2.1.1, x.2.2.2.2.2.2.1.2.1, ()), x.2.2.2.2.2.2.2.1, W (x.2.2.2.2.2.2.2.2.1 + (1 : Int)), ()))) T.fail)) (T.ret (Ex.exit (2 : Nat), x.1, x.2.1, x.2.2.1, x.2.2.2.1, x.2.2.2.2.1, x.2.2.2.2.2.1, (List.take x.2.2.2.2.2.2.1.1.length x.2.2.2.2.2.2.1.1, x.2.2.2.2.2.2.1.2.1, ()), x.2.2.2.2.2.2.2.1, x.2.2.2.2.2.2.2.2.1, ()))
noncomputable def law46_XformMeshes.l2 (x : Bool × ((List (Int × Int × Int)) × List (Int × Int × Int)) × Int × Int × ((List (Int × Int × Int)) × List (Int × Int × Int)) × Int × (List (Int × Int × Int) × (List (Int × Int × Int)) × Unit) × Bool × Int × Unit) : Option (Ex × Bool × ((List (Int × Int × Int)) × List (Int × Int × Int)) × Int × Int × ((List (Int × Int × Int)) × List (Int × Int × Int)) × Int × (List (Int × Int × Int) × (List (Int × Int × Int)) × Unit) × Bool × Int × Unit) := (iterT law46_XformMeshes.t2 rounds x).run
theorem law46_XformMeshes.k2 : bodies 2 (lp Try.f8 []) = [.loop (loopIn 2 (lp Try.f8 []))] ∧ WP Try.prog 0 (.block 2 (.loop (loopIn 2 (lp Try.f8 [])))) (loopS law46_XformMeshes.L2 203 2 [.exit 2, .ret] law46_XformMeshes.l2) :=
  loop_tree (L := law46_XformMeshes.L2) (F := (dpT Try.prog (ext (ext (ext (ext (ext (ext (ext (ext (ext (ext (ext (ext Xs 35 law46_awake.q) 36 xform_Mesh.q) 37 ref46_Right.q) 38 ref46_Apply.q) 29 ref22_In.q) 39 xform_Quarter.q) 24 mesh_Closed.q) 40 xform_Shift.q) 33 ref45_Volume.q) 98 xform_Then_1.q) 99 xform_turn_1.q) 107 xform_dot_1.q) law46_XformMeshes.deeps law46_XformMeshes.tb 100 8)) (D := (inL law46_XformMeshes.deeps.D)) (tab := []) (t := law46_XformMeshes.t2) mixed (dpT_ok mixed (quiet_ext (quiet_ext (quiet_ext (quiet_ext (quiet_ext (quiet_ext (quiet_ext (quiet_ext (quiet_ext (quiet_ext (quiet_ext (quiet_ext Xok law46_awake.ok) xform_Mesh.ok) ref46_Right.ok) ref46_Apply.ok) ref22_In.ok) xform_Quarter.ok) mesh_Closed.ok) xform_Shift.ok) ref45_Volume.ok) xform_Then_1.ok) xform_turn_1.ok) xform_dot_1.ok) law46_XformMeshes.deepsOk law46_XformMeshes.tbOk 100 8).1 (dpT_ok mixed (quiet_ext (quiet_ext (quiet_ext (quiet_ext (quiet_ext (quiet_ext (quiet_ext (quiet_ext (quiet_ext (quiet_ext (quiet_ext (quiet_ext Xok law46_awake.ok) xform_Mesh.ok) ref46_Right.ok) ref46_Apply.ok) ref22_In.ok) xform_Quarter.ok) mesh_Closed.ok) xform_Shift.ok) ref45_Volume.ok) xform_Then_1.ok) xform_turn_1.ok) xform_dot_1.ok) law46_XformMeshes.deepsOk law46_XformMeshes.tbOk 100 8).2 (fun _ => rfl) (by kernel_rfl) (by kernel_rfl) trivial (fun x => by kernel_rfl)
noncomputable def law46_XformMeshes.t (x : (((Int × Int × Int) × (Int × Int × Int) × (Int × Int × Int) × Int × Int × Int) × ((List (Int × Int × Int)) × List (Int × Int × Int)) × Int × Int)) : T (Bool) := T.ite (decide ((↑(List.length x.2.1.1) : Int) > (40 : Int)) || decide ((↑(List.length x.2.1.2) : Int) > (60 : Int))) (T.ret true) (T.opt (xform_Mesh (x.1, x.2.1)) fun y => T.opt (ref45_Check x.2.1) fun y_1 => T.ite (y_1 != (0 : Int)) (T.ret (y.2 == y_1 && (↑(List.length y.1.1) : Int) == (0 : Int))) (T.opt (ref46_Right x.1) fun y_2 => T.ite (!y_2) (T.ret (y.2 == (3 : Int))) (T.opt (law46_XformMeshes.l0 (false, x.1, x.2.1, x.2.2.1, x.2.2.2, y.1, y.2, ([], x.2.1.2, ()), true, (0 : Int), ())) fun y => T.ite (exEq y.1 (Ex.exit (0 : Nat))) (T.opt (ref45_Check (List.take y.2.2.2.2.2.2.2.2.1.1.length y.2.2.2.2.2.2.2.2.1.1, y.2.2.2.2.2.2.2.2.1.2.1)) fun y_3 => T.ite (y_3 != (0 : Int)) (T.ret (y.2.2.2.2.2.2.2.1 == y_3 && (↑(List.length y.2.2.2.2.2.2.1.1) : Int) == (0 : Int))) (T.opt (law46_XformMeshes.l2 (y.2.1, y.2.2.2.1, y.2.2.2.2.1, y.2.2.2.2.2.1, y.2.2.2.2.2.2.1, y.2.2.2.2.2.2.2.1, (List.take y.2.2.2.2.2.2.2.2.1.1.length y.2.2.2.2.2.2.2.2.1.1, y.2.2.2.2.2.2.2.2.1.2.1, ()), y.2.2.2.2.2.2.2.2.2.1, (0 : Int), ())) fun y => T.ite (exEq y.1 (Ex.exit (2 : Nat))) (T.opt (xform_Quarter (W (Int.tmod y.2.2.2.1 (3 : Int)), y.2.2.2.2.1)) fun y_4 => T.opt (xform_Mesh (y_4.fst, y.2.2.1)) fun y_5 => T.ite (!y.2.2.2.2.2.2.2.2.1) (T.ret true) (T.opt (mesh_Closed y.2.2.1) fun y_6 => T.ite (!y_6) (T.ret true) (T.opt (xform_Mesh ((((1024 : Int), (0 : Int), (0 : Int)), ((0 : Int), (1024 : Int), (0 : Int)), ((0 : Int), (0 : Int), (1024 : Int)), (5000 : Int), (-5000 : Int), (1 : Int)), y.2.2.1)) fun y_7 => T.opt (ref45_Volume y_5.fst) fun y_8 => T.opt (ref45_Volume y_7.fst) fun y_9 => T.ite (y_5.snd == (0 : Int) && y_7.snd == (0 : Int)) (T.opt (ref45_Volume y.2.2.1) fun y => T.ret (y_8 == y && y_9 == y_8)) (T.ret false)))) (T.ite (exEq y.1 Ex.ret) (T.ret y.2.1) T.fail))) T.fail)))
noncomputable def law46_XformMeshes (x : (((Int × Int × Int) × (Int × Int × Int) × (Int × Int × Int) × Int × Int × Int) × ((List (Int × Int × Int)) × List (Int × Int × Int)) × Int × Int)) : Option (Bool) := (law46_XformMeshes.t x).run
noncomputable def law46_XformMeshes.q : List AV → T AV := entry [(.st (.pair TMove (.pair TMesh (.pair (.int .u8) TI))))] (outR [.bool]) fun x => .opt (law46_XformMeshes x) .ret
theorem law46_XformMeshes.ok : FnOK Try.prog 8 law46_XformMeshes.q :=
  entry_call (ps := [(.st (.pair TMove (.pair TMesh (.pair (.int .u8) TI))))]) (rs := [.bool]) (F := (dpT Try.prog (ext (ext (ext (ext (ext (ext (ext (ext (ext (ext (ext (ext Xs 35 law46_awake.q) 36 xform_Mesh.q) 37 ref46_Right.q) 38 ref46_Apply.q) 29 ref22_In.q) 39 xform_Quarter.q) 24 mesh_Closed.q) 40 xform_Shift.q) 33 ref45_Volume.q) 98 xform_Then_1.q) 99 xform_turn_1.q) 107 xform_dot_1.q) law46_XformMeshes.deeps law46_XformMeshes.tb 100 8)) (D := (inL law46_XformMeshes.deeps.D)) (S := tabS [(0, loopS law46_XformMeshes.L0 203 0 [.exit 0] law46_XformMeshes.l0), (2, loopS law46_XformMeshes.L2 203 2 [.exit 2, .ret] law46_XformMeshes.l2)]) (t := law46_XformMeshes.t) mixed (dpT_ok mixed (quiet_ext (quiet_ext (quiet_ext (quiet_ext (quiet_ext (quiet_ext (quiet_ext (quiet_ext (quiet_ext (quiet_ext (quiet_ext (quiet_ext Xok law46_awake.ok) xform_Mesh.ok) ref46_Right.ok) ref46_Apply.ok) ref22_In.ok) xform_Quarter.ok) mesh_Closed.ok) xform_Shift.ok) ref45_Volume.ok) xform_Then_1.ok) xform_turn_1.ok) xform_dot_1.ok) law46_XformMeshes.deepsOk law46_XformMeshes.tbOk 100 8).1 (dpT_ok mixed (quiet_ext (quiet_ext (quiet_ext (quiet_ext (quiet_ext (quiet_ext (quiet_ext (quiet_ext (quiet_ext (quiet_ext (quiet_ext (quiet_ext Xok law46_awake.ok) xform_Mesh.ok) ref46_Right.ok) ref46_Apply.ok) ref22_In.ok) xform_Quarter.ok) mesh_Closed.ok) xform_Shift.ok) ref45_Volume.ok) xform_Then_1.ok) xform_turn_1.ok) xform_dot_1.ok) law46_XformMeshes.deepsOk law46_XformMeshes.tbOk 100 8).2 Try.func8 (by kernel_rfl) (sok_fn ⟨law46_XformMeshes.k0, law46_XformMeshes.k2, trivial⟩) (by kernel_rfl) (fun x => by kernel_rfl)
end Go.Proofs.Pen

namespace Go.Proofs.Pen
open Go Go.Proofs Mp

abbrev Mv := P3 × P3 × P3 × P3
def bdd (k : Int) (p : P3) : Prop := -k ≤ p.1 ∧ p.1 ≤ k ∧ -k ≤ p.2.1 ∧ p.2.1 ≤ k ∧ -k ≤ p.2.2 ∧ p.2.2 ≤ k
instance (k : Int) (p : P3) : Decidable (bdd k p) := by unfold bdd; infer_instance
theorem bdB_eq (k : Int) (p : P3) : bdB k p = decide (bdd k p) := decide_eq_decide.2 Iff.rfl
theorem min3_max3d (x y z k : Int) (h0 : 0 ≤ k) (hk : k ≤ 1048576) :
    (decide ((if z < (if y < x then y else x) then z else if y < x then y else x) ≥ W (0 - k)) && decide ((if z > (if y > x then y else x) then z else if y > x then y else x) ≤ k)) = decide (bdd k (x, y, z)) := by
  rw [min3_max3 x y z k h0 hk, bdB_eq]
def right (m : Mv) : Prop := bdd 4096 m.1 ∧ bdd 4096 m.2.1 ∧ bdd 4096 m.2.2.1 ∧ bdd 1048576 m.2.2.2
instance (m : Mv) : Decidable (right m) := by unfold right; infer_instance

theorem Check_eq (m : Mv) : xform_Check m = some (if right m then 0 else 3) := by
  obtain ⟨⟨a, b, c⟩, ⟨d, e, f⟩, ⟨g, h, i⟩, j, k, l⟩ := m
  unfold xform_Check xform_Check.t
  dsimp only
  rw [min3_max3d a b c 4096 (by decide) (by decide), min3_max3d d e f 4096 (by decide) (by decide), min3_max3d g h i 4096 (by decide) (by decide), min3_max3d j k l 1048576 (by decide) (by decide)]
  simp only [tr_ite, tr_ret, right]
  by_cases h1 : bdd 4096 (a, b, c) <;> by_cases h2 : bdd 4096 (d, e, f) <;> by_cases h3 : bdd 4096 (g, h, i) <;> by_cases h4 : bdd 1048576 (j, k, l) <;> simp [h1, h2, h3, h4]

theorem Right_eq (m : Mv) : ref46_Right m = some (decide (right m)) := by
  obtain ⟨⟨a, b, c⟩, ⟨d, e, f⟩, ⟨g, h, i⟩, j, k, l⟩ := m
  unfold ref46_Right ref46_Right.t
  simp only [tr_ite, tr_ret, right, bdd, ← Bool.decide_and, decide_eq_true_eq]
  split
  · split
    · split
      · congr 1; apply decide_eq_decide.2; omega
      · congr 1; symm; apply decide_eq_false; omega
    · congr 1; symm; apply decide_eq_false; omega
  · congr 1; symm; apply decide_eq_false; omega

/-! ### Points that are moved -/
def dot (r p : P3) : Int := r.1 * p.1 + r.2.1 * p.2.1 + r.2.2 * p.2.2

theorem dot_bd {r p : P3} {k n : Int} (h1 : bdd k r) (h2 : bdd n p) : -(3 * (k * n)) ≤ dot r p ∧ dot r p ≤ 3 * (k * n) := by
  unfold bdd at h1 h2
  have a := mul_bd h1.1 h1.2.1 h2.1 h2.2.1
  have b := mul_bd h1.2.2.1 h1.2.2.2.1 h2.2.2.1 h2.2.2.2.1
  have c := mul_bd h1.2.2.2.2.1 h1.2.2.2.2.2 h2.2.2.2.2.1 h2.2.2.2.2.2
  unfold dot
  omega

theorem wdot {r p : P3} (h1 : bdd 4096 r) (h2 : bdd 1048576 p) : W (W (W (r.1 * p.1) + W (r.2.1 * p.2.1)) + W (r.2.2 * p.2.2)) = dot r p := by
  unfold bdd at h1 h2
  have a := mul_bd h1.1 h1.2.1 h2.1 h2.2.1
  have b := mul_bd h1.2.2.1 h1.2.2.2.1 h2.2.2.1 h2.2.2.2.1
  have c := mul_bd h1.2.2.2.2.1 h1.2.2.2.2.2 h2.2.2.2.2.1 h2.2.2.2.2.2
  unfold dot
  rw [W_id (n := r.1 * p.1) (by omega) (by omega), W_id (n := r.2.1 * p.2.1) (by omega) (by omega), W_id (n := r.2.2 * p.2.2) (by omega) (by omega), W_id (n := r.1 * p.1 + r.2.1 * p.2.1) (by omega) (by omega), W_id (by omega) (by omega)]

theorem wdot' {r p : P3} (h1 : bdd 4096 r) (h2 : bdd 4096 p) : W (W (W (r.1 * p.1) + W (r.2.1 * p.2.1)) + W (r.2.2 * p.2.2)) = dot r p :=
  wdot h1 (by unfold bdd at h2 ⊢; omega)

theorem sh10 (n : Int) : n.fdiv (2 ^ min (Int.toNat 10) IntKind.i64.bits) = n / 1024 := by
  have : (2 : Int) ^ min (Int.toNat 10) IntKind.i64.bits = 1024 := rfl
  rw [this, fdiv_pos _ (by decide)]

theorem dot_1_eq {r p : P3} (h1 : bdd 4096 r) (h2 : bdd 1048576 p) : xform_dot_1 (r, p) = some (dot r p / 1024) := by
  unfold xform_dot_1 xform_dot_1.t
  rw [tr_ite, if_neg (by decide), tr_ret]
  dsimp only
  rw [sh10, wdot h1 h2]

def app (m : Mv) (p : P3) : P3 := (dot m.1 p / 1024 + m.2.2.2.1, dot m.2.1 p / 1024 + m.2.2.2.2.1, dot m.2.2.1 p / 1024 + m.2.2.2.2.2)

theorem app_w {m : Mv} {p : P3} (h : right m) (hp : bdd 1048576 p) : W (dot m.1 p / 1024 + m.2.2.2.1) = (app m p).1 ∧ W (dot m.2.1 p / 1024 + m.2.2.2.2.1) = (app m p).2.1 ∧ W (dot m.2.2.1 p / 1024 + m.2.2.2.2.2) = (app m p).2.2 := by
  have a := dot_bd h.1 hp
  have b := dot_bd h.2.1 hp
  have c := dot_bd h.2.2.1 hp
  have d := h.2.2.2
  unfold bdd at d
  unfold app
  refine ⟨W_id ?_ ?_, W_id ?_ ?_, W_id ?_ ?_⟩ <;> omega

theorem Apply_eq (m : Mv) (p : P3) : xform_Apply (m, p) = some (if right m ∧ bdd 1048576 p then (app m p, 0) else ((0, 0, 0), 3)) := by
  obtain ⟨x, y, z, t⟩ := m
  obtain ⟨a, b, c⟩ := p
  unfold xform_Apply xform_Apply.t
  simp only [tr_ite, tr_ret, tr_opt, Check_eq, Option.bind_some]
  rw [min3_max3d a b c 1048576 (by decide) (by decide)]
  by_cases h : right (x, y, z, t)
  · by_cases hp : bdd 1048576 (a, b, c)
    · have h' := h
      unfold right at h'
      obtain ⟨e1, e2, e3⟩ := app_w h hp
      dsimp only at h' e1 e2 e3
      simp only [h, hp, if_true, dot_1_eq h'.1 hp, dot_1_eq h'.2.1 hp, dot_1_eq h'.2.2.1 hp, Option.bind_some, e1, e2, e3]
      simp
    · simp [h, hp]
  · simp [h]

theorem down_eq {n : Int} (h1 : -1000000000000000000 ≤ n) (h2 : n ≤ 1000000000000000000) : ref46_down n = some (n / 1024) := by
  have h := tdv n (k := 1024) (by decide)
  unfold ref46_down ref46_down.t
  rw [tr_ite]
  simp only [tr_ret, decide_eq_true_eq]
  rw [W_id (n := n.tdiv 1024) (by omega) (by omega)]
  split
  · rw [W_id (by omega) (by omega)]
    congr 1; omega
  · congr 1; omega

theorem RApply_eq {m : Mv} {p : P3} (h : right m) (hp : bdd 1048576 p) : ref46_Apply (m, p) = some (app m p) := by
  have h' := h
  unfold right at h'
  have a := dot_bd h'.1 hp
  have b := dot_bd h'.2.1 hp
  have c := dot_bd h'.2.2.1 hp
  obtain ⟨e1, e2, e3⟩ := app_w h hp
  unfold ref46_Apply ref46_Apply.t
  simp only [tr_opt, tr_ret]
  rw [wdot h'.1 hp, wdot h'.2.1 hp, wdot h'.2.2.1 hp, down_eq (by omega) (by omega), down_eq (by omega) (by omega), down_eq (by omega) (by omega)]
  simp only [Option.bind_some, e1, e2, e3]

def zeroM : Mv := ((0, 0, 0), (0, 0, 0), (0, 0, 0), 0, 0, 0)
def qone : Mv := ((1024, 0, 0), (0, 1024, 0), (0, 0, 1024), 0, 0, 0)
def qm (a k : Nat) : Mv :=
  match a, k with
  | 0, 1 => ((1024, 0, 0), (0, 0, -1024), (0, 1024, 0), 0, 0, 0)
  | 0, 2 => ((1024, 0, 0), (0, -1024, 0), (0, 0, -1024), 0, 0, 0)
  | 0, 3 => ((1024, 0, 0), (0, 0, 1024), (0, -1024, 0), 0, 0, 0)
  | 1, 1 => ((0, 0, 1024), (0, 1024, 0), (-1024, 0, 0), 0, 0, 0)
  | 1, 2 => ((-1024, 0, 0), (0, 1024, 0), (0, 0, -1024), 0, 0, 0)
  | 1, 3 => ((0, 0, -1024), (0, 1024, 0), (1024, 0, 0), 0, 0, 0)
  | 2, 1 => ((0, -1024, 0), (1024, 0, 0), (0, 0, 1024), 0, 0, 0)
  | 2, 2 => ((-1024, 0, 0), (0, -1024, 0), (0, 0, 1024), 0, 0, 0)
  | 2, 3 => ((0, 1024, 0), (-1024, 0, 0), (0, 0, 1024), 0, 0, 0)
  | _, _ => qone

def ql (a k : Nat) : Prop := xform_Quarter.l0 (a, zeroM, qone, k, 0, ()) = some (Ex.exit 0, (a : Int), zeroM, qm a k, (k : Int), (k : Int), ())
theorem ql_all : (ql 0 0 ∧ ql 0 1 ∧ ql 0 2 ∧ ql 0 3) ∧ (ql 1 0 ∧ ql 1 1 ∧ ql 1 2 ∧ ql 1 3) ∧ (ql 2 0 ∧ ql 2 1 ∧ ql 2 2 ∧ ql 2 3) := by
  unfold ql
  refine ⟨⟨?_, ?_, ?_, ?_⟩, ⟨?_, ?_, ?_, ?_⟩, ?_, ?_, ?_, ?_⟩ <;> kernel_rfl
theorem ql_of {a k : Nat} (ha : a < 3) (hk : k < 4) : ql a k := by
  obtain ⟨⟨a0, a1, a2, a3⟩, ⟨b0, b1, b2, b3⟩, c0, c1, c2, c3⟩ := ql_all
  have e1 : a = 0 ∨ a = 1 ∨ a = 2 := by omega
  have e2 : k = 0 ∨ k = 1 ∨ k = 2 ∨ k = 3 := by omega
  rcases e1 with rfl | rfl | rfl
  · rcases e2 with rfl | rfl | rfl | rfl
    · exact a0
    · exact a1
    · exact a2
    · exact a3
  · rcases e2 with rfl | rfl | rfl | rfl
    · exact b0
    · exact b1
    · exact b2
    · exact b3
  · rcases e2 with rfl | rfl | rfl | rfl
    · exact c0
    · exact c1
    · exact c2
    · exact c3

theorem four (t : Int) : ∃ k : Nat, k < 4 ∧ (W (t.tmod 4 + 4)).tmod 4 = k ∧ (t.tmod 4 < 0 → W (t.tmod 4 + 4) = k) ∧ (¬ t.tmod 4 < 0 → t.tmod 4 = k) := by
  have h := tdv t (k := 4) (by decide)
  have h2 := tdv (t.tmod 4 + 4) (k := 4) (by decide)
  have hw : W (t.tmod 4 + 4) = t.tmod 4 + 4 := W_id (by omega) (by omega)
  rw [hw]
  refine ⟨((t.tmod 4 + 4).tmod 4).toNat, ?_, ?_, ?_, ?_⟩ <;> omega

theorem Quarter_eq {a : Nat} {k : Nat} {t : Int} (ha : a < 3) (hk : k < 4) (ht : (W (t.tmod 4 + 4)).tmod 4 = k) : xform_Quarter ((a : Int), t) = some (qm a k, 0) := by
  have hql : ql a k := ql_of ha hk
  unfold ql zeroM qone at hql
  unfold xform_Quarter xform_Quarter.t
  simp only [tr_ite, tr_ret, tr_opt, ht, hql, Option.bind_some]
  rw [if_neg (by simp; omega)]
  rfl

def tp (a k : Nat) (p : P3) : P3 :=
  match a, k with
  | 0, 1 => (p.1, -p.2.2, p.2.1)
  | 0, 2 => (p.1, -p.2.1, -p.2.2)
  | 0, 3 => (p.1, p.2.2, -p.2.1)
  | 1, 1 => (p.2.2, p.2.1, -p.1)
  | 1, 2 => (-p.1, p.2.1, -p.2.2)
  | 1, 3 => (-p.2.2, p.2.1, p.1)
  | 2, 1 => (-p.2.1, p.1, p.2.2)
  | 2, 2 => (-p.1, -p.2.1, p.2.2)
  | 2, 3 => (p.2.1, -p.1, p.2.2)
  | _, _ => p

theorem turns {a k : Nat} (ha : a < 3) (hk : k < 4) (p : P3) : right (qm a k) ∧ app (qm a k) p = tp a k p := by
  have e1 : a = 0 ∨ a = 1 ∨ a = 2 := by omega
  have e2 : k = 0 ∨ k = 1 ∨ k = 2 ∨ k = 3 := by omega
  obtain ⟨x, y, z⟩ := p
  rcases e1 with rfl | rfl | rfl <;> rcases e2 with rfl | rfl | rfl | rfl <;> refine ⟨by decide, ?_⟩ <;> simp only [app, dot, qm, tp, qone] <;> ext <;> dsimp only <;> omega
end Go.Proofs.Pen

namespace Go.Proofs.Pen
open Go Go.Proofs Mp

/-! ### Meshes whose points are moved -/
def mapM (f : P3 → P3) (x : Msh) : Msh := (x.1.map f, x.2)

theorem gp_map (f : P3 → P3) {ps : List P3} {i : Int} (h0 : 0 ≤ i) (h1 : i < ps.length) : gp (ps.map f) i = f (gp ps i) := by
  unfold gp
  rw [List.getD_eq_getElem?_getD, List.getD_eq_getElem?_getD, List.getElem?_map, List.getElem?_eq_getElem (by omega)]
  rfl

theorem chk_map {x : Msh} (f : P3 → P3) (hbd : ∀ p ∈ x.1, bdB 1048576 (f p) = true) (hfl : ∀ a b c, fl3 (f a) (f b) (f c) ↔ fl3 a b c) (h : chk x = 0) : chk (mapM f x) = 0 := by
  obtain ⟨h1, h2, h3, h4, h5⟩ := chk_zero.1 h
  refine chk_zero.2 ⟨h1, by simpa [mapM] using h2, ?_, ?_, ?_⟩
  · show (x.1.map f).all _ = true
    rw [List.all_map]
    exact List.all_eq_true.2 hbd
  · show x.2.all (plB ((x.1.map f).length : Int)) = true
    rw [List.length_map]
    exact h4
  · refine List.all_eq_true.2 fun g hg => ?_
    have hp : pl x.1.length g := of_decide_eq_true (List.all_eq_true.1 h4 _ hg)
    unfold pl at hp
    have := List.all_eq_true.1 h5 _ hg
    have e : flB (mapM f x).1 g = flB x.1 g := by
      unfold flB fl mapM
      dsimp only
      rw [gp_map f (by omega) (by omega), gp_map f (by omega) (by omega), gp_map f (by omega) (by omega)]
      exact decide_eq_decide.2 (hfl _ _ _)
    rw [e]
    exact this

theorem sum_congr {α : Type} {l : List α} {f g : α → Int} (h : ∀ x ∈ l, f x = g x) : (l.map f).sum = (l.map g).sum := by
  rw [List.map_congr_left h]

theorem volS_map {x : Msh} (f : P3 → P3) (hv : ∀ a b c, vol3 (f a) (f b) (f c) = vol3 a b c) (h4 : x.2.all (plB x.1.length) = true) : volS (mapM f x) = volS x := by
  unfold volS
  refine sum_congr fun g hg => ?_
  have hp : pl x.1.length g := of_decide_eq_true (List.all_eq_true.1 h4 _ hg)
  unfold pl at hp
  unfold volF mapM
  dsimp only
  rw [gp_map f (by omega) (by omega), gp_map f (by omega) (by omega), gp_map f (by omega) (by omega), hv]

/-! ### Turns -/
theorem tp_vol {a k : Nat} (ha : a < 3) (hk : k < 4) (p q r : P3) : vol3 (tp a k p) (tp a k q) (tp a k r) = vol3 p q r := by
  have e1 : a = 0 ∨ a = 1 ∨ a = 2 := by omega
  have e2 : k = 0 ∨ k = 1 ∨ k = 2 ∨ k = 3 := by omega
  obtain ⟨p1, p2, p3⟩ := p
  obtain ⟨q1, q2, q3⟩ := q
  obtain ⟨r1, r2, r3⟩ := r
  rcases e1 with rfl | rfl | rfl <;> rcases e2 with rfl | rfl | rfl | rfl <;> simp only [tp, vol3] <;> grind

theorem tp_fl {a k : Nat} (ha : a < 3) (hk : k < 4) (p q r : P3) : fl3 (tp a k p) (tp a k q) (tp a k r) ↔ fl3 p q r := by
  have e1 : a = 0 ∨ a = 1 ∨ a = 2 := by omega
  have e2 : k = 0 ∨ k = 1 ∨ k = 2 ∨ k = 3 := by omega
  obtain ⟨p1, p2, p3⟩ := p
  obtain ⟨q1, q2, q3⟩ := q
  obtain ⟨r1, r2, r3⟩ := r
  unfold fl3
  rcases e1 with rfl | rfl | rfl <;> rcases e2 with rfl | rfl | rfl | rfl <;> simp only [tp] <;> constructor <;> rintro ⟨h1, h2, h3⟩ <;> refine ⟨?_, ?_, ?_⟩ <;> grind

theorem tp_bd {a k : Nat} (ha : a < 3) (hk : k < 4) {n : Int} {p : P3} (h : bdB n p = true) : bdB n (tp a k p) = true := by
  have e1 : a = 0 ∨ a = 1 ∨ a = 2 := by omega
  have e2 : k = 0 ∨ k = 1 ∨ k = 2 ∨ k = 3 := by omega
  have h := of_decide_eq_true h
  unfold bd at h
  obtain ⟨p1, p2, p3⟩ := p
  dsimp only at h
  refine decide_eq_true ?_
  unfold bd
  rcases e1 with rfl | rfl | rfl <;> rcases e2 with rfl | rfl | rfl | rfl <;> simp only [tp] <;> omega

/-! ### Shifts -/
def sh (d p : P3) : P3 := (p.1 + d.1, p.2.1 + d.2.1, p.2.2 + d.2.2)
/-- What a side adds when all is shifted. -/
def wS (d u v : P3) : Int := d.1 * (u.2.1 * v.2.2 - u.2.2 * v.2.1) + d.2.1 * (u.2.2 * v.1 - u.1 * v.2.2) + d.2.2 * (u.1 * v.2.1 - u.2.1 * v.1)

theorem sh_vol (d a b c : P3) : vol3 (sh d a) (sh d b) (sh d c) = vol3 a b c + (wS d a b + (wS d b c + wS d c a)) := by
  obtain ⟨d1, d2, d3⟩ := d
  obtain ⟨a1, a2, a3⟩ := a
  obtain ⟨b1, b2, b3⟩ := b
  obtain ⟨c1, c2, c3⟩ := c
  unfold vol3 sh wS
  dsimp only
  grind

theorem wS_back (d u v : P3) : wS d v u = -wS d u v := by
  unfold wS
  grind

theorem sh_fl (d a b c : P3) : fl3 (sh d a) (sh d b) (sh d c) ↔ fl3 a b c := by
  unfold fl3 sh
  dsimp only
  rw [show b.2.1 + d.2.1 - (a.2.1 + d.2.1) = b.2.1 - a.2.1 by omega, show c.2.2 + d.2.2 - (a.2.2 + d.2.2) = c.2.2 - a.2.2 by omega, show b.2.2 + d.2.2 - (a.2.2 + d.2.2) = b.2.2 - a.2.2 by omega,
    show c.2.1 + d.2.1 - (a.2.1 + d.2.1) = c.2.1 - a.2.1 by omega, show c.1 + d.1 - (a.1 + d.1) = c.1 - a.1 by omega, show b.1 + d.1 - (a.1 + d.1) = b.1 - a.1 by omega]

/-- A sum over all sides. -/
def sumS (g : Int × Int → Int) (l : List (Int × Int)) : Int := (l.map g).sum

theorem sum_perm {l l' : List (Int × Int)} (g : Int × Int → Int) (h : l.Perm l') : sumS g l = sumS g l' := by
  unfold sumS
  induction h with
  | nil => rfl
  | cons a _ ih => simp only [List.map_cons, List.sum_cons, ih]
  | swap a b l => simp only [List.map_cons, List.sum_cons]; omega
  | trans _ _ h1 h2 => exact h1.trans h2

def swp (s : Int × Int) : Int × Int := (s.2, s.1)
theorem swp_swp (s : Int × Int) : swp (swp s) = s := rfl
theorem count_swp (s : Int × Int) : ∀ l : List (Int × Int), (l.map swp).count s = l.count (swp s)
  | [] => rfl
  | t :: l => by
    rw [List.map_cons, List.count_cons, List.count_cons, count_swp s l]
    congr 1
    have : (swp t == s) = (t == swp s) := by
      rw [Bool.eq_iff_iff, beq_iff_eq, beq_iff_eq]
      constructor
      · intro h; rw [← h]; rfl
      · intro h; rw [h]; rfl
    rw [this]

/-- Of a closed mesh each side has its other way round. -/
theorem closed_perm {fs : List P3} (h : closedB fs = true) : ((sidesL fs).map swp).Perm (sidesL fs) := by
  have hall : ∀ s ∈ sidesL fs, (sidesL fs).count s = 1 ∧ (sidesL fs).count (swp s) = 1 := fun s hs => by
    have := List.all_eq_true.1 h s hs
    simp only [Bool.and_eq_true, decide_eq_true_eq] at this
    exact this
  rw [List.perm_iff_count]
  intro s
  rw [count_swp]
  rcases Nat.eq_zero_or_pos ((sidesL fs).count s) with h0 | h0
  · rcases Nat.eq_zero_or_pos ((sidesL fs).count (swp s)) with h1 | h1
    · omega
    · have := hall _ (List.count_pos_iff.1 h1)
      rw [swp_swp] at this
      omega
  · have := hall _ (List.count_pos_iff.1 h0)
    omega

theorem closed_zero {fs : List P3} (h : closedB fs = true) {g : Int × Int → Int} (hg : ∀ s, g (swp s) = -g s) : sumS g (sidesL fs) = 0 := by
  have e := sum_perm g (closed_perm h)
  have e2 : ∀ l : List (Int × Int), sumS g (l.map swp) = -sumS g l := fun l => by
    unfold sumS
    induction l with
    | nil => rfl
    | cons s l ih => simp only [List.map_cons, List.sum_cons, ih, hg]; omega
  rw [e2] at e
  omega

theorem sum_sides (g : Int × Int → Int) (fs : List P3) : (fs.map fun f => g (f.1, f.2.1) + (g (f.2.1, f.2.2) + g (f.2.2, f.1))).sum = sumS g (sidesL fs) := by
  induction fs with
  | nil => rfl
  | cons f l ih =>
    rw [List.map_cons, List.sum_cons, ih]
    show _ = ((sidesOf f ++ sidesL l).map g).sum
    rw [List.map_append, List.sum_append]
    show _ = (g (f.1, f.2.1) + (g (f.2.1, f.2.2) + (g (f.2.2, f.1) + 0))) + sumS g (sidesL l)
    omega

theorem sum_add {α : Type} (f g : α → Int) : ∀ l : List α, (l.map fun x => f x + g x).sum = (l.map f).sum + (l.map g).sum
  | [] => rfl
  | x :: l => by
    simp only [List.map_cons, List.sum_cons]
    rw [sum_add f g l]
    omega

theorem volS_shift {x : Msh} (d : P3) (h4 : x.2.all (plB x.1.length) = true) (hc : closedB x.2 = true) : volS (mapM (sh d) x) = volS x := by
  have e : volS (mapM (sh d) x) = (x.2.map fun f => volF x.1 f + (wS d (gp x.1 f.1) (gp x.1 f.2.1) + (wS d (gp x.1 f.2.1) (gp x.1 f.2.2) + wS d (gp x.1 f.2.2) (gp x.1 f.1)))).sum := by
    unfold volS
    refine sum_congr fun g hg => ?_
    have hp : pl x.1.length g := of_decide_eq_true (List.all_eq_true.1 h4 _ hg)
    unfold pl at hp
    unfold volF mapM
    dsimp only
    rw [gp_map _ (by omega) (by omega), gp_map _ (by omega) (by omega), gp_map _ (by omega) (by omega), sh_vol]
  rw [e, sum_add]
  have z := sum_sides (fun s => wS d (gp x.1 s.1) (gp x.1 s.2)) x.2
  dsimp only at z
  rw [z, closed_zero hc fun s => wS_back d _ _]
  unfold volS
  omega
end Go.Proofs.Pen

namespace Go.Proofs.Pen
open Go Go.Proofs Mp

theorem In60 (p : P3) : (decide (p.1 ≥ -60000) && decide (p.1 ≤ 60000) && decide (p.2.1 ≥ -60000) && decide (p.2.1 ≤ 60000) && decide (p.2.2 ≥ -60000) && decide (p.2.2 ≤ 60000)) = bdB 60000 p := In_eq p 60000

theorem XMesh_eq (m : Mv) (x : Msh) : xform_Mesh (m, x) = some (if chk x ≠ 0 then (([], []), chk x) else if ¬ right m then (([], []), 3) else if chk (mapM (app m) x) ≠ 0 then (([], []), chk (mapM (app m) x)) else (mapM (app m) x, 0)) := by
  unfold xform_Mesh xform_Mesh.t
  rw [tr_opt, mesh_Check_eq, Option.bind_some, tr_ite]
  by_cases hx : chk x = 0
  case neg => rw [if_pos (by simpa using hx), if_pos hx, tr_ret]
  obtain ⟨h1, h2, h3, h4, h5⟩ := chk_zero.1 hx
  rw [if_neg (by simpa using hx), if_neg (by simpa using hx), tr_ite, if_pos (by unfold most; simp; omega), tr_opt, Check_eq, Option.bind_some, tr_ite]
  by_cases hm : right m
  case neg => rw [if_neg hm, if_pos (by rfl), if_pos hm, tr_ret]
  rw [if_pos hm, if_neg (by decide), if_neg (by simpa using hm), tr_opt, List.take_length]
  have e0 : ∀ y, xform_Mesh.l0 y = (iterT xform_Mesh.t0 rounds y).run := fun _ => rfl
  have s0 := iter_count (t := xform_Mesh.t0) (fun k => (m, ([], []), ((x.1.take k).map (app m), x.2, ()), x.1, (x.1.length : Int), (k : Int), ())) (e := .exit 0)
    (z := (m, ([], []), ((x.1.take x.1.length).map (app m), x.2, ()), x.1, (x.1.length : Int), (x.1.length : Int), ())) (by simp) x.1.length 0 rounds
    (fun k _ hk => by
      have hk : k < x.1.length := by omega
      have hb : bdd 1048576 x.1[k] := of_decide_eq_true (List.all_eq_true.1 h3 _ (List.getElem_mem hk))
      have hlen : ((x.1.take k).map (app m)).length = k := by rw [List.length_map, List.length_take]; omega
      unfold xform_Mesh.t0
      simp only [tr_ite, tr_ret, tr_opt, decide_eq_true_eq]
      rw [if_pos (by omega), lget_nat x.1 hk, Option.bind_some, Apply_eq, if_pos ⟨hm, hb⟩, Option.bind_some, if_pos (by rw [hlen]; exact room (by omega) (by omega)), W_succ (by omega), take_all, List.take_length, map_take _ _ hk])
    (by
      unfold xform_Mesh.t0
      simp only [tr_ite, tr_ret, decide_eq_true_eq]
      rw [if_neg (by omega), Nat.zero_add, List.take_length, List.take_length, List.take_length])
    (rounds_gt (by omega))
  have z : ((0 : Nat) : Int) = 0 := rfl
  simp only [z, List.take_zero, List.map_nil, List.take_length] at s0
  rw [e0, s0, Option.bind_some]
  dsimp only
  rw [tr_ite, if_pos (show exEq (.exit 0) (.exit 0) = true from rfl), tr_opt, List.take_length, List.take_length, mesh_Check_eq, Option.bind_some, tr_ite]
  show (if (chk (mapM (app m) x) != 0) = true then _ else _) = _
  by_cases hc : chk (mapM (app m) x) = 0
  · rw [if_neg (by simpa using hc), if_neg (by simpa using hc), tr_ret]
    rfl
  · rw [if_pos (by simpa using hc), if_pos hc, tr_ret]
    rfl

theorem XM_l0 {m : Mv} (hm : right m) {x : Msh} (hx : chk x = 0) (ax ti : Int) (y : Msh) (e : Int) :
    law46_XformMeshes.l0 (false, m, x, ax, ti, y, e, ([], x.2, ()), true, 0, ()) = some (.exit 0, false, m, x, ax, ti, y, e, (x.1.map (app m), x.2, ()), x.1.all (bdB 60000), (x.1.length : Int), ()) := by
  obtain ⟨h1, h2, h3, h4, h5⟩ := chk_zero.1 hx
  have s0 := iter_count (t := law46_XformMeshes.t0) (fun k => (false, m, x, ax, ti, y, e, ((x.1.take k).map (app m), x.2, ()), (x.1.take k).all (bdB 60000), (k : Int), ())) (e := .exit 0)
    (z := (false, m, x, ax, ti, y, e, ((x.1.take x.1.length).map (app m), x.2, ()), (x.1.take x.1.length).all (bdB 60000), (x.1.length : Int), ())) (by simp) x.1.length 0 rounds
    (fun k _ hk => by
      have hk : k < x.1.length := by omega
      have hb : bdd 1048576 x.1[k] := of_decide_eq_true (List.all_eq_true.1 h3 _ (List.getElem_mem hk))
      have hlen : ((x.1.take k).map (app m)).length = k := by rw [List.length_map, List.length_take]; omega
      have ht : (x.1.take (k + 1)).all (bdB 60000) = ((x.1.take k).all (bdB 60000) && bdB 60000 x.1[k]) := by
        rw [List.take_succ_eq_append_getElem hk, List.all_append]; simp
      unfold law46_XformMeshes.t0
      simp only [tr_ite, tr_ret, tr_opt, decide_eq_true_eq]
      rw [if_pos (by omega), lget_nat x.1 hk, Option.bind_some, RApply_eq hm hb, Option.bind_some, if_pos (by rw [hlen]; exact room (by omega) (by omega)), W_succ (by omega), take_all, map_take _ _ hk, ht]
      cases (x.1.take k).all (bdB 60000)
      · rw [if_neg (by decide)]; rfl
      · rw [if_pos rfl, Option.bind_some, In60]; rfl)
    (by
      unfold law46_XformMeshes.t0
      simp only [tr_ite, tr_ret, decide_eq_true_eq]
      rw [if_neg (by omega), Nat.zero_add, List.take_length, List.take_length])
    (rounds_gt (by omega))
  simp only [List.take_length] at s0
  exact s0

theorem XM_l2 (x : Msh) (ax ti : Int) (near : Bool) (ps : List P3) (fs gs : List P3) (hl : ps.length ≤ 1024) :
    law46_XformMeshes.l2 (false, x, ax, ti, (ps, fs), 0, (ps, gs, ()), near, 0, ()) = some (.exit 2, false, x, ax, ti, (ps, fs), 0, (ps, gs, ()), near, (ps.length : Int), ()) := by
  have s0 := iter_count (t := law46_XformMeshes.t2) (fun k => (false, x, ax, ti, (ps, fs), 0, (ps, gs, ()), near, (k : Int), ())) (e := .exit 2)
    (z := (false, x, ax, ti, (ps, fs), 0, (ps, gs, ()), near, (ps.length : Int), ())) (by simp) ps.length 0 rounds
    (fun k _ hk => by
      have hk : k < ps.length := by omega
      have hg : ps[0 + (k : Int).toNat]? = some ps[k] := by
        rw [Nat.zero_add, Int.toNat_natCast]; exact List.getElem?_eq_getElem hk
      unfold law46_XformMeshes.t2
      simp only [tr_ite, tr_ret, tr_opt, decide_eq_true_eq]
      rw [if_pos (by omega), if_neg (by simp), lget_nat ps hk, Option.bind_some, if_pos (by simp; omega), hg, Option.bind_some, if_neg (by simp), W_succ (by omega), List.take_length])
    (by
      unfold law46_XformMeshes.t2
      simp only [tr_ite, tr_ret, decide_eq_true_eq]
      rw [if_neg (by omega), Nat.zero_add, List.take_length])
    (rounds_gt (by omega))
  exact s0

def shM : Mv := ((1024, 0, 0), (0, 1024, 0), (0, 0, 1024), 5000, -5000, 1)
theorem shM_right : right shM := by decide
theorem shM_app : app shM = sh (5000, -5000, 1) := by
  funext p
  unfold app shM dot sh
  dsimp only
  ext <;> dsimp only <;> omega

theorem all_mono {l : List P3} {j k : Int} (hjk : j ≤ k) (h : l.all (bdB j) = true) : l.all (bdB k) = true := by
  refine List.all_eq_true.2 fun p hp => ?_
  have := of_decide_eq_true (List.all_eq_true.1 h p hp)
  unfold bd at this
  refine decide_eq_true ?_
  unfold bd
  omega

theorem XformMeshes_law (m : Mv) (x : Msh) (ax ti : Int) (ha : 0 ≤ ax ∧ ax ≤ 255) : (law46_XformMeshes.t (m, x, ax, ti)).run = some true := by
  unfold law46_XformMeshes.t
  rw [tr_ite]
  by_cases hlt : x.1.length ≤ 40 ∧ x.2.length ≤ 60
  case neg => rw [if_pos (by simp; omega), tr_ret]
  rw [if_neg (by simp; omega), tr_opt, XMesh_eq, Option.bind_some, tr_opt, ref45_Check_eq, Option.bind_some, tr_ite]
  by_cases hx : chk x = 0
  case neg =>
    rw [if_pos (show chk x ≠ 0 from hx), if_pos (show (chk x != 0) = true by simpa using hx), tr_ret]
    simp
  obtain ⟨h1, h2, h3, h4, h5⟩ := chk_zero.1 hx
  rw [if_neg (show ¬ (chk x ≠ 0) from fun h => h hx), if_neg (show ¬ (chk x != 0) = true by simpa using hx), tr_opt, Right_eq, Option.bind_some, tr_ite]
  by_cases hm : right m
  case neg =>
    rw [if_pos (show ¬ right m from hm), if_pos (by simp [hm]), tr_ret]
    rfl
  rw [if_neg (show ¬ ¬ right m from fun h => h hm), if_neg (by simp [hm]), tr_opt]
  dsimp only
  rw [XM_l0 hm hx, Option.bind_some]
  dsimp only
  rw [tr_ite, if_pos (show exEq (.exit 0) (.exit 0) = true from rfl), tr_opt, List.take_length, ref45_Check_eq, Option.bind_some, tr_ite]
  have hz : ((x.1.map (app m), x.2) : Msh) = mapM (app m) x := rfl
  rw [hz]
  by_cases hy : chk (mapM (app m) x) = 0
  case neg =>
    rw [if_pos (show chk (mapM (app m) x) ≠ 0 from hy), if_pos (show (chk (mapM (app m) x) != 0) = true by simpa using hy), tr_ret]
    simp
  rw [if_neg (show ¬ (chk (mapM (app m) x) ≠ 0) from fun h => h hy), if_neg (show ¬ (chk (mapM (app m) x) != 0) = true by simpa using hy), tr_opt]
  dsimp only
  have hl2 := XM_l2 x ax ti (x.1.all (bdB 60000)) (x.1.map (app m)) x.2 x.2 (by simpa using h2)
  have hzz : (x.1.map (app m), x.2) = mapM (app m) x := rfl
  rw [← hzz, hl2, Option.bind_some]
  dsimp only
  obtain ⟨a, haa⟩ : ∃ a : Nat, Int.tmod ax 3 = a := ⟨(Int.tmod ax 3).toNat, by
    have := tdv ax (k := 3) (by decide)
    omega⟩
  have ha3 : a < 3 := by
    have := tdv ax (k := 3) (by decide)
    omega
  obtain ⟨k, hk, k1, _, _⟩ := four ti
  rw [tr_ite, if_pos (show exEq (.exit 2) (.exit 2) = true from rfl), tr_opt, haa, W_id (n := (a : Int)) (by omega) (by omega), Quarter_eq ha3 hk k1, Option.bind_some, tr_opt, XMesh_eq, Option.bind_some, tr_ite]
  by_cases hn : x.1.all (bdB 60000) = true
  case neg => rw [if_pos (by simpa using hn), tr_ret]
  rw [if_neg (by simp [hn]), tr_opt, Closed_eq (ok_chk hx), Option.bind_some, hx, tr_ite]
  by_cases hc : closedB x.2 = true
  case neg =>
    have hc' : closedB x.2 = false := by simpa using hc
    rw [if_pos (by rw [hc']; rfl), tr_ret]
  rw [if_neg (by rw [hc]; decide), tr_opt]
  have qr : app (qm a k) = tp a k := funext fun p => (turns ha3 hk p).2
  have q0 := (turns ha3 hk (0, 0, 0)).1
  have qc : chk (mapM (tp a k) x) = 0 := chk_map _ (fun p hp => tp_bd ha3 hk (List.all_eq_true.1 h3 p hp)) (tp_fl ha3 hk) hx
  have sc : chk (mapM (sh (5000, -5000, 1)) x) = 0 := chk_map _ (fun p hp => by
    have := of_decide_eq_true (List.all_eq_true.1 hn p hp)
    unfold bd at this
    refine decide_eq_true ?_
    unfold bd sh
    dsimp only
    omega) (sh_fl _) hx
  have e := XMesh_eq shM x
  unfold shM at e
  rw [e]
  have er : right ((1024, 0, 0), (0, 1024, 0), (0, 0, 1024), 5000, -5000, 1) := shM_right
  have ea : app ((1024, 0, 0), (0, 1024, 0), (0, 0, 1024), 5000, -5000, 1) = sh (5000, -5000, 1) := shM_app
  rw [hx, ea, qr, qc, sc, Option.bind_some, if_neg (by simp), if_neg (by simpa using q0), if_neg (by simp), if_neg (by simp), if_neg (by simpa using er), if_neg (by simp)]
  have v1 : (mapM (tp a k) x).1.all (bdB 65536) = true := by
    show (x.1.map (tp a k)).all _ = true
    rw [List.all_map]
    exact List.all_eq_true.2 fun p hp => tp_bd ha3 hk (List.all_eq_true.1 (all_mono (by decide) hn) p hp)
  have v2 : (mapM (sh (5000, -5000, 1)) x).1.all (bdB 65536) = true := by
    show (x.1.map _).all _ = true
    rw [List.all_map]
    refine List.all_eq_true.2 fun p hp => ?_
    have := of_decide_eq_true (List.all_eq_true.1 hn p hp)
    unfold bd at this
    refine decide_eq_true ?_
    unfold bd sh
    dsimp only
    omega
  have p1 : (mapM (tp a k) x).2.all (plB (mapM (tp a k) x).1.length) = true := by
    show x.2.all (plB ((x.1.map _).length : Int)) = true
    rw [List.length_map]; exact h4
  have p2 : (mapM (sh (5000, -5000, 1)) x).2.all (plB (mapM (sh (5000, -5000, 1)) x).1.length) = true := by
    show x.2.all (plB ((x.1.map _).length : Int)) = true
    rw [List.length_map]; exact h4
  rw [tr_opt, ref45_Volume_eq v1 p1 h1, Option.bind_some, tr_opt, ref45_Volume_eq v2 p2 h1, Option.bind_some, tr_ite, if_pos (by rfl), tr_opt, ref45_Volume_eq (all_mono (by decide) hn) h4 h1, Option.bind_some, tr_ret,
    volS_map _ (tp_vol ha3 hk) h4, volS_shift _ h4 hc]
  simp

theorem XformMeshes_all (x : dens [(.st (.pair TMove (.pair TMesh (.pair (.int .u8) TI))))]) (h : insAll [(.st (.pair TMove (.pair TMesh (.pair (.int .u8) TI))))] x) : (law46_XformMeshes.t x).run = some true := by
  obtain ⟨_, _, h3, _⟩ := h
  exact XformMeshes_law x.1 x.2.1 x.2.2.1 x.2.2.2 h3
end Go.Proofs.Pen
