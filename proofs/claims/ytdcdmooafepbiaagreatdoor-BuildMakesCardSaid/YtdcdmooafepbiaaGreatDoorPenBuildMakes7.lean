/- A part of the proof that the law BuildMakes is true of every input: models of the functions that the law reaches, and what holds of them. -/
import Derived.Test.YtdcdmooafepbiaaGreatDoorPenKit0
import Derived.Test.YtdcdmooafepbiaaGreatDoorPenKit1
import Derived.Test.YtdcdmooafepbiaaGreatDoorPenKit2
import Derived.Test.YtdcdmooafepbiaaGreatDoorPenKit3
import Derived.Test.YtdcdmooafepbiaaGreatDoorPenBuildMakes4
import Derived.Test.YtdcdmooafepbiaaGreatDoorPenKit5
import Derived.Test.YtdcdmooafepbiaaGreatDoorPenBuildMakes6
namespace Go.Proofs.Pen
open Go Go.Proofs
def ref22_Check.L0 : List (Nat × Lay) := [(1, .box TScn), (2, .box TP), (3, .val TI)]
noncomputable def ref22_Check.t0 (x : ((List ((Int × Int × Int) × (Int × Int × Int) × Int)) × (List ((Int × Int × Int) × (Int × Int × Int) × (Int × Int × Int) × Int)) × (List (Int × Int × Int × Int)) × Int × (List (Int × Int × Int)) × ((Int × Int × Int) × (Int × Int × Int) × (Int × Int × Int) × Int × Int × Int) × Int × Int) × (Int × Int × Int) × Int × Unit) : T (Ex × ((List ((Int × Int × Int) × (Int × Int × Int) × Int)) × (List ((Int × Int × Int) × (Int × Int × Int) × (Int × Int × Int) × Int)) × (List (Int × Int × Int × Int)) × Int × (List (Int × Int × Int)) × ((Int × Int × Int) × (Int × Int × Int) × (Int × Int × Int) × Int × Int × Int) × Int × Int) × (Int × Int × Int) × Int × Unit) := T.ite (decide (x.2.2.1 < (↑(List.length x.1.1) : Int))) (T.opt (lget x.1.1 x.2.2.1) fun y => T.opt (ref22_mat (y, W (x.2.2.1 + (1 : Int)))) fun y => T.ite (!(y.1 == (0 : Int) && (y.2.1 == (0 : Int) && y.2.2 == (0 : Int)))) (T.ret (Ex.ret, x.1, y, x.2.2.1, ())) (T.ret (Ex.normal, x.1, x.2.1, W (x.2.2.1 + (1 : Int)), ()))) (T.ret (Ex.exit (0 : Nat), x.1, x.2.1, x.2.2.1, ()))
noncomputable def ref22_Check.l0 (x : ((List ((Int × Int × Int) × (Int × Int × Int) × Int)) × (List ((Int × Int × Int) × (Int × Int × Int) × (Int × Int × Int) × Int)) × (List (Int × Int × Int × Int)) × Int × (List (Int × Int × Int)) × ((Int × Int × Int) × (Int × Int × Int) × (Int × Int × Int) × Int × Int × Int) × Int × Int) × (Int × Int × Int) × Int × Unit) : Option (Ex × ((List ((Int × Int × Int) × (Int × Int × Int) × Int)) × (List ((Int × Int × Int) × (Int × Int × Int) × (Int × Int × Int) × Int)) × (List (Int × Int × Int × Int)) × Int × (List (Int × Int × Int)) × ((Int × Int × Int) × (Int × Int × Int) × (Int × Int × Int) × Int × Int × Int) × Int × Int) × (Int × Int × Int) × Int × Unit) := (iterT ref22_Check.t0 rounds x).run
theorem ref22_Check.k0 : bodies 0 (lp Tryz.f11 []) = [.loop (loopIn 0 (lp Tryz.f11 []))] ∧ WP Tryz.prog 0 (.block 0 (.loop (loopIn 0 (lp Tryz.f11 [])))) (loopS ref22_Check.L0 92 0 [.exit 0, .ret] ref22_Check.l0) :=
  loop_tree (L := ref22_Check.L0) (F := ({ quiet := (ext (ext (ext (ext (ext Xs 28 ref22_bound.q) 29 ref22_mat.q) 30 ref22_tri.q) 31 ref22_light.q) 32 ref22_rest.q), deep := noDeep } : Fns)) (D := D0) (tab := []) (t := ref22_Check.t0) mixed (quiet_ext (quiet_ext (quiet_ext (quiet_ext (quiet_ext Xok ref22_bound.ok) ref22_mat.ok) ref22_tri.ok) ref22_light.ok) ref22_rest.ok) (deep_none _) (fun _ => rfl) (by kernel_rfl) (by kernel_rfl) trivial (fun x => by kernel_rfl)
def ref22_Check.L2 : List (Nat × Lay) := [(1, .box TScn), (2, .box TP), (5, .val TI)]
noncomputable def ref22_Check.t2 (x : ((List ((Int × Int × Int) × (Int × Int × Int) × Int)) × (List ((Int × Int × Int) × (Int × Int × Int) × (Int × Int × Int) × Int)) × (List (Int × Int × Int × Int)) × Int × (List (Int × Int × Int)) × ((Int × Int × Int) × (Int × Int × Int) × (Int × Int × Int) × Int × Int × Int) × Int × Int) × (Int × Int × Int) × Int × Unit) : T (Ex × ((List ((Int × Int × Int) × (Int × Int × Int) × Int)) × (List ((Int × Int × Int) × (Int × Int × Int) × (Int × Int × Int) × Int)) × (List (Int × Int × Int × Int)) × Int × (List (Int × Int × Int)) × ((Int × Int × Int) × (Int × Int × Int) × (Int × Int × Int) × Int × Int × Int) × Int × Int) × (Int × Int × Int) × Int × Unit) := T.ite (decide (x.2.2.1 < (↑(List.length x.1.2.1) : Int))) (T.opt (lget x.1.2.1 x.2.2.1) fun y => T.opt (ref22_tri (y, (↑(List.length x.1.1) : Int), W (x.2.2.1 + (1 : Int)))) fun y => T.ite (!(y.1 == (0 : Int) && (y.2.1 == (0 : Int) && y.2.2 == (0 : Int)))) (T.ret (Ex.ret, x.1, y, x.2.2.1, ())) (T.ret (Ex.normal, x.1, x.2.1, W (x.2.2.1 + (1 : Int)), ()))) (T.ret (Ex.exit (2 : Nat), x.1, x.2.1, x.2.2.1, ()))
noncomputable def ref22_Check.l2 (x : ((List ((Int × Int × Int) × (Int × Int × Int) × Int)) × (List ((Int × Int × Int) × (Int × Int × Int) × (Int × Int × Int) × Int)) × (List (Int × Int × Int × Int)) × Int × (List (Int × Int × Int)) × ((Int × Int × Int) × (Int × Int × Int) × (Int × Int × Int) × Int × Int × Int) × Int × Int) × (Int × Int × Int) × Int × Unit) : Option (Ex × ((List ((Int × Int × Int) × (Int × Int × Int) × Int)) × (List ((Int × Int × Int) × (Int × Int × Int) × (Int × Int × Int) × Int)) × (List (Int × Int × Int × Int)) × Int × (List (Int × Int × Int)) × ((Int × Int × Int) × (Int × Int × Int) × (Int × Int × Int) × Int × Int × Int) × Int × Int) × (Int × Int × Int) × Int × Unit) := (iterT ref22_Check.t2 rounds x).run
theorem ref22_Check.k2 : bodies 2 (lp Tryz.f11 []) = [.loop (loopIn 2 (lp Tryz.f11 []))] ∧ WP Tryz.prog 0 (.block 2 (.loop (loopIn 2 (lp Tryz.f11 [])))) (loopS ref22_Check.L2 92 2 [.exit 2, .ret] ref22_Check.l2) :=
  loop_tree (L := ref22_Check.L2) (F := ({ quiet := (ext (ext (ext (ext (ext Xs 28 ref22_bound.q) 29 ref22_mat.q) 30 ref22_tri.q) 31 ref22_light.q) 32 ref22_rest.q), deep := noDeep } : Fns)) (D := D0) (tab := []) (t := ref22_Check.t2) mixed (quiet_ext (quiet_ext (quiet_ext (quiet_ext (quiet_ext Xok ref22_bound.ok) ref22_mat.ok) ref22_tri.ok) ref22_light.ok) ref22_rest.ok) (deep_none _) (fun _ => rfl) (by kernel_rfl) (by kernel_rfl) trivial (fun x => by kernel_rfl)
def ref22_Check.L4 : List (Nat × Lay) := [(1, .box TScn), (2, .box TP), (7, .val TI)]
noncomputable def ref22_Check.t4 (x : ((List ((Int × Int × Int) × (Int × Int × Int) × Int)) × (List ((Int × Int × Int) × (Int × Int × Int) × (Int × Int × Int) × Int)) × (List (Int × Int × Int × Int)) × Int × (List (Int × Int × Int)) × ((Int × Int × Int) × (Int × Int × Int) × (Int × Int × Int) × Int × Int × Int) × Int × Int) × (Int × Int × Int) × Int × Unit) : T (Ex × ((List ((Int × Int × Int) × (Int × Int × Int) × Int)) × (List ((Int × Int × Int) × (Int × Int × Int) × (Int × Int × Int) × Int)) × (List (Int × Int × Int × Int)) × Int × (List (Int × Int × Int)) × ((Int × Int × Int) × (Int × Int × Int) × (Int × Int × Int) × Int × Int × Int) × Int × Int) × (Int × Int × Int) × Int × Unit) := T.ite (decide (x.2.2.1 < (↑(List.length x.1.2.2.1) : Int))) (T.opt (ref22_light (x.1.2.2.1, x.2.2.1, (↑(List.length x.1.2.1) : Int))) fun y => T.ite (!(y.1 == (0 : Int) && (y.2.1 == (0 : Int) && y.2.2 == (0 : Int)))) (T.ret (Ex.ret, x.1, y, x.2.2.1, ())) (T.ret (Ex.normal, x.1, x.2.1, W (x.2.2.1 + (1 : Int)), ()))) (T.ret (Ex.exit (4 : Nat), x.1, x.2.1, x.2.2.1, ()))
noncomputable def ref22_Check.l4 (x : ((List ((Int × Int × Int) × (Int × Int × Int) × Int)) × (List ((Int × Int × Int) × (Int × Int × Int) × (Int × Int × Int) × Int)) × (List (Int × Int × Int × Int)) × Int × (List (Int × Int × Int)) × ((Int × Int × Int) × (Int × Int × Int) × (Int × Int × Int) × Int × Int × Int) × Int × Int) × (Int × Int × Int) × Int × Unit) : Option (Ex × ((List ((Int × Int × Int) × (Int × Int × Int) × Int)) × (List ((Int × Int × Int) × (Int × Int × Int) × (Int × Int × Int) × Int)) × (List (Int × Int × Int × Int)) × Int × (List (Int × Int × Int)) × ((Int × Int × Int) × (Int × Int × Int) × (Int × Int × Int) × Int × Int × Int) × Int × Int) × (Int × Int × Int) × Int × Unit) := (iterT ref22_Check.t4 rounds x).run
theorem ref22_Check.k4 : bodies 4 (lp Tryz.f11 []) = [.loop (loopIn 4 (lp Tryz.f11 []))] ∧ WP Tryz.prog 0 (.block 4 (.loop (loopIn 4 (lp Tryz.f11 [])))) (loopS ref22_Check.L4 92 4 [.exit 4, .ret] ref22_Check.l4) :=
  loop_tree (L := ref22_Check.L4) (F := ({ quiet := (ext (ext (ext (ext (ext Xs 28 ref22_bound.q) 29 ref22_mat.q) 30 ref22_tri.q) 31 ref22_light.q) 32 ref22_rest.q), deep := noDeep } : Fns)) (D := D0) (tab := []) (t := ref22_Check.t4) mixed (quiet_ext (quiet_ext (quiet_ext (quiet_ext (quiet_ext Xok ref22_bound.ok) ref22_mat.ok) ref22_tri.ok) ref22_light.ok) ref22_rest.ok) (deep_none _) (fun _ => rfl) (by kernel_rfl) (by kernel_rfl) trivial (fun x => by kernel_rfl)
noncomputable def ref22_Check.t (x : ((List ((Int × Int × Int) × (Int × Int × Int) × Int)) × (List ((Int × Int × Int) × (Int × Int × Int) × (Int × Int × Int) × Int)) × (List (Int × Int × Int × Int)) × Int × (List (Int × Int × Int)) × ((Int × Int × Int) × (Int × Int × Int) × (Int × Int × Int) × Int × Int × Int) × Int × Int)) : T ((Int × Int × Int)) := T.ite (decide ((↑(List.length x.1) : Int) > (32 : Int)) || decide ((↑(List.length x.2.1) : Int) > (512 : Int)) || decide ((↑(List.length x.2.2.1) : Int) > (512 : Int)) || decide (x.2.2.2.1 > (16 : Int))) (T.ret ((10 : Int), (4 : Int), (0 : Int))) (T.opt (ref22_Check.l0 (x, ((0 : Int), (0 : Int), (0 : Int)), (0 : Int), ())) fun y => T.ite (exEq y.1 (Ex.exit (0 : Nat))) (T.opt (ref22_Check.l2 (y.2.1, y.2.2.1, (0 : Int), ())) fun y => T.ite (exEq y.1 (Ex.exit (2 : Nat))) (T.opt (ref22_Check.l4 (y.2.1, y.2.2.1, (0 : Int), ())) fun y => T.ite (exEq y.1 (Ex.exit (4 : Nat))) (T.opt (ref22_rest y.2.1) fun y => T.ret y) (T.ite (exEq y.1 Ex.ret) (T.ret y.2.2.1) T.fail)) (T.ite (exEq y.1 Ex.ret) (T.ret y.2.2.1) T.fail)) (T.ite (exEq y.1 Ex.ret) (T.ret y.2.2.1) T.fail))
noncomputable def ref22_Check (x : ((List ((Int × Int × Int) × (Int × Int × Int) × Int)) × (List ((Int × Int × Int) × (Int × Int × Int) × (Int × Int × Int) × Int)) × (List (Int × Int × Int × Int)) × Int × (List (Int × Int × Int)) × ((Int × Int × Int) × (Int × Int × Int) × (Int × Int × Int) × Int × Int × Int) × Int × Int)) : Option ((Int × Int × Int)) := (ref22_Check.t x).run
noncomputable def ref22_Check.q : List AV → T AV := entry [TScn] (outR [TP]) fun x => .opt (ref22_Check x) .ret
theorem ref22_Check.ok : FnOK Tryz.prog 11 ref22_Check.q :=
  entry_call (ps := [TScn]) (rs := [TP]) (F := ({ quiet := (ext (ext (ext (ext (ext Xs 28 ref22_bound.q) 29 ref22_mat.q) 30 ref22_tri.q) 31 ref22_light.q) 32 ref22_rest.q), deep := noDeep } : Fns)) (D := D0) (S := tabS [(0, loopS ref22_Check.L0 92 0 [.exit 0, .ret] ref22_Check.l0), (2, loopS ref22_Check.L2 92 2 [.exit 2, .ret] ref22_Check.l2), (4, loopS ref22_Check.L4 92 4 [.exit 4, .ret] ref22_Check.l4)]) (t := ref22_Check.t) mixed (quiet_ext (quiet_ext (quiet_ext (quiet_ext (quiet_ext Xok ref22_bound.ok) ref22_mat.ok) ref22_tri.ok) ref22_light.ok) ref22_rest.ok) (deep_none _) Tryz.func11 (by kernel_rfl) (sok_fn ⟨ref22_Check.k0, ref22_Check.k2, ref22_Check.k4, trivial⟩) (by kernel_rfl) (fun x => by kernel_rfl)
theorem ref22_Check.okF : FrOK Tryz.prog 11 ref22_Check.q :=
  entry_fresh (ps := [TScn]) (rs := [TP]) (F := ({ quiet := (ext (ext (ext (ext (ext Xs 28 ref22_bound.q) 29 ref22_mat.q) 30 ref22_tri.q) 31 ref22_light.q) 32 ref22_rest.q), deep := noDeep } : Fns)) (D := D0) (S := tabS [(0, loopS ref22_Check.L0 92 0 [.exit 0, .ret] ref22_Check.l0), (2, loopS ref22_Check.L2 92 2 [.exit 2, .ret] ref22_Check.l2), (4, loopS ref22_Check.L4 92 4 [.exit 4, .ret] ref22_Check.l4)]) (t := ref22_Check.t) mixed (quiet_ext (quiet_ext (quiet_ext (quiet_ext (quiet_ext Xok ref22_bound.ok) ref22_mat.ok) ref22_tri.ok) ref22_light.ok) ref22_rest.ok) (deep_none _) Tryz.func11 (by kernel_rfl) (sok_fn ⟨ref22_Check.k0, ref22_Check.k2, ref22_Check.k4, trivial⟩) (by kernel_rfl) (fun x => by kernel_rfl) entry_run
end Go.Proofs.Pen

namespace Go.Proofs.Pen
open Go Go.Proofs

theorem iter_stop {σ : Type} {t : σ → T (Ex × σ)} {n : Nat} {x y : σ} {e : Ex} (he : e ≠ .normal) (h : (t x).run = some (e, y)) : (iterT t (n + 1) x).run = some (e, y) := by
  rw [iter_step h]
  cases e <;> first | exact absurd rfl he | rfl
theorem iter_go {σ : Type} {t : σ → T (Ex × σ)} {n : Nat} {x y : σ} (h : (t x).run = some (.normal, y)) : (iterT t (n + 1) x).run = (iterT t n y).run := by
  rw [iter_step h]

theorem nn {n : Nat} (h : n < 1000) : W ((n : Int) + 1) = ((n + 1 : Nat) : Int) := W_succ (by omega)

theorem New_eq {c l : Int} (h : ¬ (c == 0) = true) : fault_New (c, l) = some (.fault c l .nil) := by
  unfold fault_New fault_New.t
  rw [tr_ite, if_neg h, tr_ret]

theorem Wrap_eq {e : ErrD} {c l : Int} (he : e.isNil = false) (h : ¬ (c == 0) = true) : fault_Wrap (e, c, l) = some (.fault c l e) := by
  unfold fault_Wrap fault_Wrap.t
  dsimp only
  rw [tr_ite, he, Bool.false_or, if_neg h, tr_ret]

end Go.Proofs.Pen

namespace Go.Proofs.Pen
open Go Go.Proofs

/-! ### What is wrong first -/
abbrev W3 := Int × Int × Int

def firstF (f : Nat → Option W3) : Nat → Nat → Option (Nat × W3)
  | _, 0 => none
  | k, n + 1 => match f k with
    | some w => some (k, w)
    | none => firstF f (k + 1) n

/-- A loop that stops at the first fault. -/
theorem iter_first {σ : Type} {t : σ → T (Ex × σ)} (st : Nat → σ) (f : Nat → Option W3) (er : Nat → W3 → σ) {e : Ex} {z : σ} (he : e ≠ .normal) : ∀ (n k m : Nat),
    (∀ i, k ≤ i → i < k + n → f i = none → (t (st i)).run = some (.normal, st (i + 1))) → (∀ i w, k ≤ i → i < k + n → f i = some w → (t (st i)).run = some (.ret, er i w)) →
    (t (st (k + n))).run = some (e, z) → n < m → (iterT t m (st k)).run = some (match firstF f k n with | some (i, w) => (.ret, er i w) | none => (e, z))
  | n, k, 0, _, _, _, hm => absurd hm (Nat.not_lt_zero _)
  | 0, k, m + 1, _, _, h2, _ => by
    rw [Nat.add_zero] at h2
    exact iter_stop he h2
  | n + 1, k, m + 1, h0, h1, h2, hm => by
    unfold firstF
    cases hf : f k with
    | some w => exact iter_stop (by simp) (h1 k w (Nat.le_refl _) (by omega) hf)
    | none =>
      rw [iter_go (h0 k (Nat.le_refl _) (by omega) hf)]
      exact iter_first st f er he n (k + 1) m (fun i a b => h0 i (by omega) (by omega)) (fun i w a b => h1 i w (by omega) (by omega)) (by rw [show k + 1 + n = k + (n + 1) by omega]; exact h2) (by omega)

theorem firstF_some {f : Nat → Option W3} : ∀ {n k i : Nat} {w : W3}, firstF f k n = some (i, w) → k ≤ i ∧ i < k + n ∧ f i = some w
  | 0, k, i, w, h => by cases h
  | n + 1, k, i, w, h => by
    unfold firstF at h
    cases hf : f k with
    | some w' => rw [hf] at h; cases h; exact ⟨Nat.le_refl _, by omega, hf⟩
    | none =>
      rw [hf] at h
      obtain ⟨h1, h2, h3⟩ := firstF_some h
      exact ⟨by omega, by omega, h3⟩

theorem firstF_none {f : Nat → Option W3} : ∀ {n k : Nat}, firstF f k n = none → ∀ i, k ≤ i → i < k + n → f i = none
  | 0, k, _, i, h1, h2 => by omega
  | n + 1, k, h, i, h1, h2 => by
    unfold firstF at h
    cases hf : f k with
    | some w' => rw [hf] at h; cases h
    | none =>
      rw [hf] at h
      rcases Nat.lt_or_ge k i with hi | hi
      · exact firstF_none h i (by omega) (by omega)
      · have : i = k := by omega
        subst this; exact hf

/-- The error that tells it. -/
def mkErr : Option W3 → ErrD
  | none => .nil
  | some w => .fault w.1 0 (.fault w.2.1 w.2.2 .nil)
def mkW : Option W3 → W3
  | none => (0, 0, 0)
  | some w => w

theorem bound_eq {c p : Int} (h : ¬ (c == 0) = true) : scene_bound (c, p) = some (mkErr (some (10, c, p))) := by
  have e1 : fault_Wrap (.fault c p .nil, 10, 0) = _ := Wrap_eq rfl (by decide)
  unfold scene_bound scene_bound.t
  rw [tr_opt, New_eq h, Option.bind_some, tr_opt, e1, Option.bind_some, tr_ret]; rfl
theorem broken_eq {c p : Int} (h : ¬ (c == 0) = true) : scene_broken (c, p) = some (mkErr (some (11, c, p))) := by
  have e1 : fault_Wrap (.fault c p .nil, 11, 0) = _ := Wrap_eq rfl (by decide)
  unfold scene_broken scene_broken.t
  rw [tr_opt, New_eq h, Option.bind_some, tr_opt, e1, Option.bind_some, tr_ret]; rfl

/-! ### Limits -/
def inB (lo hi : Int) (l : List Int) : Bool := l.all fun a => decide (lo ≤ a) && decide (a ≤ hi)

def mnF (m y : Int) : Int := if y < m then y else m
def mxF (m y : Int) : Int := if y > m then y else m

theorem mn_ge (lo : Int) : ∀ (t : List Int) (a : Int), lo ≤ t.foldl mnF a ↔ lo ≤ a ∧ ∀ b ∈ t, lo ≤ b
  | [], a => by simp
  | b :: t, a => by
    rw [List.foldl_cons, mn_ge lo t]
    have : lo ≤ mnF a b ↔ lo ≤ a ∧ lo ≤ b := by unfold mnF; split <;> omega
    rw [this]
    simp [and_assoc]
theorem mx_le (hi : Int) : ∀ (t : List Int) (a : Int), t.foldl mxF a ≤ hi ↔ a ≤ hi ∧ ∀ b ∈ t, b ≤ hi
  | [], a => by simp
  | b :: t, a => by
    rw [List.foldl_cons, mx_le hi t]
    have : mxF a b ≤ hi ↔ a ≤ hi ∧ b ≤ hi := by unfold mxF; split <;> omega
    rw [this]
    simp [and_assoc]

theorem fold_take (f : Int → Int → Int) (a : Int) (t : List Int) {k : Nat} (h : k < t.length) : (t.take (k + 1)).foldl f a = f ((t.take k).foldl f a) t[k] := by
  rw [List.take_succ_eq_append_getElem h, List.foldl_append]; rfl

theorem Min_eq (a : Int) (t : List Int) (h : t.length < 900) : slices_Min (a :: t) = some (t.foldl mnF a) := by
  have hl : slices_Min.l0 (a :: t, a, 1, ()) = some (.exit 0, a :: t, t.foldl mnF a, ((t.length + 1 : Nat) : Int), ()) := by
    have := iter_count (t := slices_Min.t0) (fun k => ((a :: t, (t.take (k - 1)).foldl mnF a, (k : Int), ()) : List Int × Int × Int × Unit)) (e := .exit 0) (z := (a :: t, t.foldl mnF a, ((t.length + 1 : Nat) : Int), ())) (by simp) t.length 1 rounds (fun i h1 hi => ?_) ?_ (rounds_gt (by omega))
    · exact this
    · have hi : i < t.length + 1 := by omega
      unfold slices_Min.t0
      dsimp only
      have hg : lget (a :: t) (i : Int) = some (t[i - 1]'(by omega)) := by
        rw [lget_nat (a :: t) (by simpa using hi)]
        congr 1
        rw [List.getElem_cons]
        split
        · omega
        · rfl
      rw [tr_ite, decide_eq_true (by simp; omega), if_pos rfl, tr_opt, hg, Option.bind_some, tr_ret, W_succ (by omega)]
      have e1 : i + 1 - 1 = (i - 1) + 1 := by omega
      rw [e1, fold_take mnF a t (by omega)]
      rfl
    · unfold slices_Min.t0
      dsimp only
      have e1 : 1 + t.length - 1 = t.length := by omega
      have e2 : ((1 + t.length : Nat) : Int) = ((t.length + 1 : Nat) : Int) := by omega
      rw [tr_ite, decide_eq_false (by simp; omega), if_neg (by simp), tr_ret, e1, e2, List.take_length]
  unfold slices_Min slices_Min.t
  have hg : lget (a :: t) 0 = some a := rfl
  rw [tr_ite, decide_eq_false (by simp; omega), if_neg (by simp), tr_opt, hg, Option.bind_some, tr_opt, hl, Option.bind_some, tr_ite, if_pos (by rfl), tr_ret]

theorem Max_eq (a : Int) (t : List Int) (h : t.length < 900) : slices_Max (a :: t) = some (t.foldl mxF a) := by
  have hl : slices_Max.l0 (a :: t, a, 1, ()) = some (.exit 0, a :: t, t.foldl mxF a, ((t.length + 1 : Nat) : Int), ()) := by
    have := iter_count (t := slices_Max.t0) (fun k => ((a :: t, (t.take (k - 1)).foldl mxF a, (k : Int), ()) : List Int × Int × Int × Unit)) (e := .exit 0) (z := (a :: t, t.foldl mxF a, ((t.length + 1 : Nat) : Int), ())) (by simp) t.length 1 rounds (fun i h1 hi => ?_) ?_ (rounds_gt (by omega))
    · exact this
    · have hi : i < t.length + 1 := by omega
      unfold slices_Max.t0
      dsimp only
      have hg : lget (a :: t) (i : Int) = some (t[i - 1]'(by omega)) := by
        rw [lget_nat (a :: t) (by simpa using hi)]
        congr 1
        rw [List.getElem_cons]
        split
        · omega
        · rfl
      rw [tr_ite, decide_eq_true (by simp; omega), if_pos rfl, tr_opt, hg, Option.bind_some, tr_ret, W_succ (by omega)]
      have e1 : i + 1 - 1 = (i - 1) + 1 := by omega
      rw [e1, fold_take mxF a t (by omega)]
      rfl
    · unfold slices_Max.t0
      dsimp only
      have e1 : 1 + t.length - 1 = t.length := by omega
      have e2 : ((1 + t.length : Nat) : Int) = ((t.length + 1 : Nat) : Int) := by omega
      rw [tr_ite, decide_eq_false (by simp; omega), if_neg (by simp), tr_ret, e1, e2, List.take_length]
  unfold slices_Max slices_Max.t
  have hg : lget (a :: t) 0 = some a := rfl
  rw [tr_ite, decide_eq_false (by simp; omega), if_neg (by simp), tr_opt, hg, Option.bind_some, tr_opt, hl, Option.bind_some, tr_ite, if_pos (by rfl), tr_ret]

theorem within_eq (a : Int) (t : List Int) (lo hi : Int) (h : t.length < 900) : scene_within_1 (a :: t, lo, hi) = some (inB lo hi (a :: t)) := by
  unfold scene_within_1 scene_within_1.t
  dsimp only
  rw [tr_opt, Min_eq a t h, Option.bind_some, tr_ite, tr_opt, Max_eq a t h, Option.bind_some]
  have e1 := mn_ge lo t a
  have e2 := mx_le hi t a
  have e3 : inB lo hi (a :: t) = (decide (lo ≤ t.foldl mnF a) && decide (t.foldl mxF a ≤ hi)) := by
    rw [Bool.eq_iff_iff]
    simp only [inB, List.all_cons, Bool.and_eq_true, List.all_eq_true, decide_eq_true_eq, e1, e2]
    constructor
    · rintro ⟨⟨h1, h2⟩, h3⟩; exact ⟨⟨h1, fun b hb => (h3 b hb).1⟩, h2, fun b hb => (h3 b hb).2⟩
    · rintro ⟨⟨h1, h2⟩, h3, h4⟩; exact ⟨⟨h1, h3⟩, fun b hb => ⟨h2 b hb, h4 b hb⟩⟩
  rw [e3]
  show (if decide (lo ≤ t.foldl mnF a) = true then some (decide (t.foldl mxF a ≤ hi)) else some false) = _
  cases decide (lo ≤ t.foldl mnF a) <;> simp

/-- The same, as the document's answer says it. -/
def in3 (p : W3) (lo hi : Int) : Bool := decide (p.1 ≥ lo) && decide (p.1 ≤ hi) && decide (p.2.1 ≥ lo) && decide (p.2.1 ≤ hi) && decide (p.2.2 ≥ lo) && decide (p.2.2 ≤ hi)
theorem inB3 (p : W3) (lo hi : Int) : inB lo hi [p.1, p.2.1, p.2.2] = in3 p lo hi := by
  unfold inB in3
  simp only [List.all_cons, List.all_nil, Bool.and_true, ge_iff_le]
  simp only [Bool.and_assoc]
theorem within3 (p : W3) (lo hi : Int) : scene_within_1 (List.take 3 [p.1, p.2.1, p.2.2], lo, hi) = some (in3 p lo hi) := by
  rw [← inB3]; exact within_eq p.1 [p.2.1, p.2.2] lo hi (by simp)
theorem within1 (a lo hi : Int) : scene_within_1 ([a], lo, hi) = some (decide (lo ≤ a) && decide (a ≤ hi)) := by
  rw [within_eq a [] lo hi (by simp)]; simp [inB]

/-! ### Outer products -/
theorem W_sub0 (a b : Int) : (W (W a - W b) == 0) = (W a == W b) := by
  have h1 := W_in a
  have h2 := W_in b
  have h3 := W_def (W a - W b)
  rw [Bool.eq_iff_iff, beq_iff_eq, beq_iff_eq, h3]
  split <;> omega

def flatB (a b : W3) : Bool := W (a.2.1 * b.2.2) == W (a.2.2 * b.2.1) && (W (a.2.2 * b.1) == W (a.1 * b.2.2) && W (a.1 * b.2.1) == W (a.2.1 * b.1))
def lessW (a b : W3) : W3 := (W (a.1 - b.1), W (a.2.1 - b.2.1), W (a.2.2 - b.2.2))
end Go.Proofs.Pen

namespace Go.Proofs.Pen
open Go Go.Proofs

theorem nf {b : Bool} (h : ¬ b = false) : b = true := by cases b <;> simp_all

abbrev MatT := W3 × W3 × Int
abbrev TriT := W3 × W3 × W3 × Int
abbrev LitT := Int × W3
abbrev CamT := W3 × W3 × W3 × Int × Int × Int
abbrev ScT := List MatT × List TriT × List LitT × Int × List W3 × CamT × Int × Int


def over1 (a b : Int) : Bool := decide (1024 ≤ a + b)
def matW (m : MatT) (p : Int) : Option W3 :=
  if (decide (1 ≤ m.2.2) && decide (m.2.2 ≤ 1024) && in3 m.1 0 9223372036854775807 && in3 m.2.1 0 9223372036854775807) = false then some (10, 3, p)
  else if (over1 m.1.1 m.2.1.1 || over1 m.1.2.1 m.2.1.2.1 || over1 m.1.2.2 m.2.1.2.2) = true then some (11, 4, p) else none
def triW (nm : Int) (t : TriT) (p : Int) : Option W3 :=
  if (decide (t.2.2.2 < 0) || decide (t.2.2.2 ≥ nm)) = true then some (11, 2, p)
  else if (in3 t.1 (-1048576) 1048576 && in3 t.2.1 (-1048576) 1048576 && in3 t.2.2.1 (-1048576) 1048576) = false then some (10, 3, p)
  else if flatB (lessW t.2.1 t.1) (lessW t.2.2.1 t.1) = true then some (11, 13, p) else none
def litW (nt : Int) (ahead : List LitT) (t : LitT) (p : Int) : Option W3 :=
  if (decide (t.1 < 0) || decide (t.1 ≥ nt) || ahead.any fun y => t.1 == y.1) = true then some (11, 2, p)
  else if in3 t.2 0 67108863 = false then some (10, 3, p) else none
def celW (c : W3) (p : Int) : Option W3 := if in3 c 0 67108863 = false then some (10, 3, p) else none
def camW (x : ScT) : Option W3 :=
  let c := x.2.2.2.2.2.1
  if (in3 c.1 (-1048576) 1048576 && in3 c.2.1 (-1048576) 1048576 && in3 c.2.2.1 (-1048576) 1048576 && (decide (1 ≤ c.2.2.2.1) && decide (c.2.2.2.1 ≤ 1048576)) && (decide (1 ≤ c.2.2.2.2.2) && decide (c.2.2.2.2.2 ≤ 1048576)) && (decide (0 ≤ c.2.2.2.2.1) && decide (c.2.2.2.2.1 ≤ 1048576))) = false then some (10, 3, 0)
  else if flatB (lessW c.2.1 c.1) c.2.2.1 = true then some (11, 13, 0)
  else if (x.2.2.2.2.2.2.1 != 1 && x.2.2.2.2.2.2.1 != 2) = true then some (11, 2, 0)
  else if (decide (1 ≤ x.2.2.2.2.2.2.2) && decide (x.2.2.2.2.2.2.2 ≤ 8192)) = false then some (10, 3, 0) else none

def fM (x : ScT) (k : Nat) : Option W3 := x.1[k]?.bind fun m => matW m ((k + 1 : Nat) : Int)
def fT (x : ScT) (k : Nat) : Option W3 := x.2.1[k]?.bind fun t => triW (x.1.length : Int) t ((k + 1 : Nat) : Int)
def fL (x : ScT) (k : Nat) : Option W3 := x.2.2.1[k]?.bind fun t => litW (x.2.1.length : Int) (x.2.2.1.take k) t ((k + 1 : Nat) : Int)
def fC (x : ScT) (k : Nat) : Option W3 := x.2.2.2.2.1[k]?.bind fun c => celW c ((k + 1 : Nat) : Int)

def bigB (x : ScT) : Bool := decide ((x.1.length : Int) > 32) || decide ((x.2.1.length : Int) > 512) || decide ((x.2.2.1.length : Int) > 512) || decide (x.2.2.2.1 > 16)

def wC (x : ScT) : Option W3 := (firstF (fC x) 0 x.2.2.2.2.1.length).map (·.2)
def wL (x : ScT) : Option W3 := (firstF (fL x) 0 x.2.2.1.length).map (·.2)
def wT (x : ScT) : Option W3 := (firstF (fT x) 0 x.2.1.length).map (·.2)
def wM (x : ScT) : Option W3 := (firstF (fM x) 0 x.1.length).map (·.2)
def wZ (x : ScT) : Option W3 :=
  if decide (x.2.2.2.1 < 0) = true then some (10, 3, 0)
  else if ((x.2.2.2.2.1.length : Int) != W (8 * x.2.2.2.1)) = true then some (11, 14, 0) else wC x
def orElse' (a b : Option W3) : Option W3 := match a with
  | some w => some w
  | none => b
/-- What is wrong with a scene. -/
def wr (x : ScT) : Option W3 := if bigB x = true then some (10, 4, 0) else orElse' (wM x) (orElse' (wT x) (orElse' (orElse' (wL x) (wZ x)) (camW x)))

/-- Not far too great. -/
def lightB (x : ScT) : Prop := x.1.length ≤ 900 ∧ x.2.1.length ≤ 900 ∧ x.2.2.1.length ≤ 900 ∧ x.2.2.2.2.1.length ≤ 900

/-! ### The program's answer -/
theorem in3_iff {p : W3} {lo hi : Int} : in3 p lo hi = true ↔ (lo ≤ p.1 ∧ p.1 ≤ hi) ∧ (lo ≤ p.2.1 ∧ p.2.1 ≤ hi) ∧ (lo ≤ p.2.2 ∧ p.2.2 ≤ hi) := by
  unfold in3
  simp only [Bool.and_eq_true, decide_eq_true_eq, ge_iff_le]
  constructor
  · rintro ⟨⟨⟨⟨⟨a, b⟩, c⟩, d⟩, e⟩, f⟩; exact ⟨⟨a, b⟩, ⟨c, d⟩, e, f⟩
  · rintro ⟨⟨a, b⟩, ⟨c, d⟩, e, f⟩; exact ⟨⟨⟨⟨⟨a, b⟩, c⟩, d⟩, e⟩, f⟩

theorem mats2 (e : ErrD) (lim : Int × Int) (i : Nat) (kd ks : W3) (r : Int) (l : List MatT) (n j : Int) (hi : i < 900) (h1 : in3 kd 0 9223372036854775807 = true) (h2 : in3 ks 0 9223372036854775807 = true) :
    ∃ ex k, scene_mats.l2 (e, lim, (i : Int), (kd, ks, r), l, n, j, List.take 3 [kd.1, kd.2.1, kd.2.2], ((List.take 3 [kd.1, kd.2.1, kd.2.2]).length : Int), 0, ()) =
      some (ex, (if exEq ex .ret = true then mkErr (some (11, 4, ((i + 1 : Nat) : Int))) else e), lim, (i : Int), (kd, ks, r), l, n, j, [kd.1, kd.2.1, kd.2.2], 3, k, ()) ∧
      ((ex = .exit 2 ∧ (over1 kd.1 ks.1 || over1 kd.2.1 ks.2.1 || over1 kd.2.2 ks.2.2) = false) ∨ (ex = .ret ∧ (over1 kd.1 ks.1 || over1 kd.2.1 ks.2.1 || over1 kd.2.2 ks.2.2) = true)) := by
  obtain ⟨⟨a1, a2⟩, ⟨a3, a4⟩, a5, a6⟩ := in3_iff.1 h1
  obtain ⟨⟨b1, b2⟩, ⟨b3, b4⟩, b5, b6⟩ := in3_iff.1 h2
  let st : Nat → ErrD × (Int × Int) × Int × MatT × List MatT × Int × Int × List Int × Int × Int × Unit := fun k => (e, lim, (i : Int), (kd, ks, r), l, n, j, [kd.1, kd.2.1, kd.2.2], 3, (k : Int), ())
  let f : Nat → Option W3 := fun k => if over1 ([kd.1, kd.2.1, kd.2.2].getD k 0) ([ks.1, ks.2.1, ks.2.2].getD k 0) = true then some (11, 4, ((i + 1 : Nat) : Int)) else none
  have step : ∀ k : Nat, k < 3 → ∃ a b, lget [kd.1, kd.2.1, kd.2.2] (k : Int) = some a ∧ lget (List.take 3 [ks.1, ks.2.1, ks.2.2]) (k : Int) = some b ∧ 0 ≤ a ∧ a ≤ 9223372036854775807 ∧ 0 ≤ b ∧ b ≤ 9223372036854775807 ∧ f k = (if over1 a b = true then some (11, 4, ((i + 1 : Nat) : Int)) else none) := by
    intro k hk
    rcases k with _ | _ | _ | k
    · exact ⟨kd.1, ks.1, rfl, rfl, a1, a2, b1, b2, rfl⟩
    · exact ⟨kd.2.1, ks.2.1, rfl, rfl, a3, a4, b3, b4, rfl⟩
    · exact ⟨kd.2.2, ks.2.2, rfl, rfl, a5, a6, b5, b6, rfl⟩
    · omega
  have hb : scene_broken (4, W ((i : Int) + 1)) = some (mkErr (some (11, 4, ((i + 1 : Nat) : Int)))) := by rw [nn (by omega)]; exact broken_eq (by decide)
  have hw : ∀ a b : Int, 0 ≤ a → a < 1024 → 0 ≤ b → W (a + if (1024 : Int) < b then 1024 else b) = a + if (1024 : Int) < b then 1024 else b := by
    intro a b q1 q2 q3
    split <;> exact W_id (by omega) (by omega)
  have run := iter_first (t := scene_mats.t2) st f (fun (k : Nat) w => (mkErr (some w), lim, (i : Int), (kd, ks, r), l, n, j, [kd.1, kd.2.1, kd.2.2], 3, (k : Int), ())) (e := .exit 2) (z := st 3) (by simp) 3 0 rounds
    (fun k _ hk hf => by
      obtain ⟨a, b, g1, g2, c1, c2, c3, c4, hfk⟩ := step k (by omega)
      have ho : over1 a b = false := by
        rw [hfk] at hf
        by_cases h : over1 a b = true
        · rw [if_pos h] at hf; cases hf
        · simpa using h
      unfold over1 at ho
      have ho := of_decide_eq_false ho
      show (scene_mats.t2 (e, lim, (i : Int), (kd, ks, r), l, n, j, [kd.1, kd.2.1, kd.2.2], 3, (k : Int), ())).run = _
      unfold scene_mats.t2
      dsimp only
      rw [tr_ite, decide_eq_true (by omega), if_pos rfl, tr_opt, g1, Option.bind_some, tr_ite, decide_eq_false (by omega), if_neg (by simp), tr_opt, g2, Option.bind_some, tr_ite, hw a b c1 (by omega) c3]
      rw [decide_eq_false (by split <;> omega), if_neg (by simp), tr_ret, W_succ (by omega)])
    (fun k w _ hk hf => by
      obtain ⟨a, b, g1, g2, c1, c2, c3, c4, hfk⟩ := step k (by omega)
      have ho : over1 a b = true ∧ w = (11, 4, ((i + 1 : Nat) : Int)) := by
        rw [hfk] at hf
        by_cases h : over1 a b = true
        · rw [if_pos h] at hf; cases hf; exact ⟨h, rfl⟩
        · rw [if_neg h] at hf; cases hf
      obtain ⟨ho, rfl⟩ := ho
      unfold over1 at ho
      have ho := of_decide_eq_true ho
      show (scene_mats.t2 (e, lim, (i : Int), (kd, ks, r), l, n, j, [kd.1, kd.2.1, kd.2.2], 3, (k : Int), ())).run = _
      unfold scene_mats.t2
      dsimp only
      rw [tr_ite, decide_eq_true (by omega), if_pos rfl, tr_opt, g1, Option.bind_some, tr_ite]
      by_cases hc : (1024 : Int) ≤ a
      · rw [decide_eq_true hc, if_pos rfl, tr_opt, hb, Option.bind_some, tr_ret]
      · rw [decide_eq_false hc, if_neg (by simp), tr_opt, g2, Option.bind_some, tr_ite, hw a b c1 (by omega) c3]
        rw [decide_eq_true (by split <;> omega), if_pos rfl, tr_opt, hb, Option.bind_some, tr_ret])
    (by
      show (scene_mats.t2 (e, lim, (i : Int), (kd, ks, r), l, n, j, [kd.1, kd.2.1, kd.2.2], 3, ((0 + 3 : Nat) : Int), ())).run = _
      unfold scene_mats.t2
      dsimp only
      rw [tr_ite, decide_eq_false (by omega), if_neg (by simp), tr_ret]) (rounds_gt (by omega))
  have hl : scene_mats.l2 (e, lim, (i : Int), (kd, ks, r), l, n, j, List.take 3 [kd.1, kd.2.1, kd.2.2], ((List.take 3 [kd.1, kd.2.1, kd.2.2]).length : Int), 0, ()) = _ := run
  rw [hl]
  have f0 : f 0 = if over1 kd.1 ks.1 = true then some (11, 4, ((i + 1 : Nat) : Int)) else none := rfl
  have f1 : f 1 = if over1 kd.2.1 ks.2.1 = true then some (11, 4, ((i + 1 : Nat) : Int)) else none := rfl
  have f2 : f 2 = if over1 kd.2.2 ks.2.2 = true then some (11, 4, ((i + 1 : Nat) : Int)) else none := rfl
  cases o1 : over1 kd.1 ks.1 with
  | true =>
    rw [o1, if_pos rfl] at f0
    refine ⟨.ret, 0, ?_, .inr ⟨rfl, by simp⟩⟩
    simp only [firstF, f0]; rfl
  | false =>
    rw [o1, if_neg (by simp)] at f0
    cases o2 : over1 kd.2.1 ks.2.1 with
    | true =>
      rw [o2, if_pos rfl] at f1
      refine ⟨.ret, 1, ?_, .inr ⟨rfl, by simp⟩⟩
      simp only [firstF, f0, f1]; rfl
    | false =>
      rw [o2, if_neg (by simp)] at f1
      cases o3 : over1 kd.2.2 ks.2.2 with
      | true =>
        rw [o3, if_pos rfl] at f2
        refine ⟨.ret, 2, ?_, .inr ⟨rfl, by simp⟩⟩
        simp only [firstF, f0, f1, f2]; rfl
      | false =>
        rw [o3, if_neg (by simp)] at f2
        refine ⟨.exit 2, 3, ?_, .inl ⟨rfl, by simp⟩⟩
        simp only [firstF, f0, f1, f2]; rfl

theorem mats_eq (x : ScT) (hx : x.1.length ≤ 900) : scene_mats x = some (mkErr (wM x)) := by
  have run := iter_first (t := scene_mats.t0) (fun k => (.nil, (0, 9223372036854775807), x.1, (x.1.length : Int), (k : Int), ())) (fM x) (fun k w => (mkErr (some w), (0, 9223372036854775807), x.1, (x.1.length : Int), (k : Int), ())) (e := .exit 0) (z := (.nil, (0, 9223372036854775807), x.1, (x.1.length : Int), (x.1.length : Int), ())) (by simp) x.1.length 0 rounds
    (fun k _ hk hf => by
      have hlt : k < x.1.length := by omega
      unfold fM at hf
      rw [List.getElem?_eq_getElem hlt, Option.bind_some] at hf
      generalize hm : x.1[k] = m at hf
      obtain ⟨kd, ks, r⟩ := m
      unfold matW at hf
      dsimp only at hf
      split at hf
      · cases hf
      rename_i hok
      have hok : (decide (1 ≤ r) && decide (r ≤ 1024) && in3 kd 0 9223372036854775807 && in3 ks 0 9223372036854775807) = true := nf hok
      simp only [Bool.and_eq_true] at hok
      obtain ⟨⟨⟨q1, q2⟩, q3⟩, q4⟩ := hok
      split at hf
      · cases hf
      rename_i hov
      obtain ⟨ex, j, e1, e2⟩ := mats2 .nil (0, 9223372036854775807) k kd ks r x.1 (x.1.length : Int) (k : Int) (by omega) q3 q4
      rcases e2 with ⟨rfl, _⟩ | ⟨_, e2⟩
      · unfold scene_mats.t0
        dsimp only
        rw [tr_ite, decide_eq_true (by omega), if_pos rfl, tr_opt, lget_nat x.1 hlt, Option.bind_some, hm, tr_opt]
        dsimp only
        rw [within1, Option.bind_some, tr_ite, q1, q2, if_neg (by simp), tr_opt, within3, Option.bind_some, tr_ite, q3, if_neg (by simp), tr_opt, within3, Option.bind_some, tr_ite, q4, if_neg (by simp), tr_opt, e1, Option.bind_some, tr_ite, if_pos (by rfl), tr_ret, W_succ (by omega)]
        rfl
      · exact absurd e2 hov)
    (fun k w _ hk hf => by
      have hlt : k < x.1.length := by omega
      unfold fM at hf
      rw [List.getElem?_eq_getElem hlt, Option.bind_some] at hf
      generalize hm : x.1[k] = m at hf
      obtain ⟨kd, ks, r⟩ := m
      have hb : scene_bound (3, W ((k : Int) + 1)) = some (mkErr (some (10, 3, ((k + 1 : Nat) : Int)))) := by rw [nn (by omega)]; exact bound_eq (by decide)
      unfold scene_mats.t0
      dsimp only
      rw [tr_ite, decide_eq_true (by omega), if_pos rfl, tr_opt, lget_nat x.1 hlt, Option.bind_some, hm, tr_opt]
      dsimp only
      rw [within1, Option.bind_some, tr_ite, tr_opt, hb]
      unfold matW at hf
      dsimp only at hf
      split at hf
      · rename_i hok
        cases hf
        cases q1 : (decide (1 ≤ r) && decide (r ≤ 1024))
        · rw [if_pos (by simp), Option.bind_some, tr_ret]
        · rw [if_neg (by simp), tr_opt, within3, Option.bind_some, tr_ite]
          cases q3 : in3 kd 0 9223372036854775807
          · rw [if_pos (by simp), tr_opt, Option.bind_some, tr_ret]
          · rw [if_neg (by simp), tr_opt, within3, Option.bind_some, tr_ite]
            cases q4 : in3 ks 0 9223372036854775807
            · rw [if_pos (by simp), tr_opt, Option.bind_some, tr_ret]
            · rw [q1, q3, q4] at hok; cases hok
      · rename_i hok
        have hok : (decide (1 ≤ r) && decide (r ≤ 1024) && in3 kd 0 9223372036854775807 && in3 ks 0 9223372036854775807) = true := nf hok
        simp only [Bool.and_eq_true] at hok
        obtain ⟨⟨⟨q1, q2⟩, q3⟩, q4⟩ := hok
        split at hf
        · rename_i hov
          cases hf
          obtain ⟨ex, j, e1, e2⟩ := mats2 .nil (0, 9223372036854775807) k kd ks r x.1 (x.1.length : Int) (k : Int) (by omega) q3 q4
          rcases e2 with ⟨_, e2⟩ | ⟨rfl, _⟩
          · rw [e2] at hov; cases hov
          · rw [q1, q2, if_neg (by simp), tr_opt, within3, Option.bind_some, tr_ite, q3, if_neg (by simp), tr_opt, within3, Option.bind_some, tr_ite, q4, if_neg (by simp), tr_opt, e1, Option.bind_some, tr_ite, if_neg (by simp [exEq]), tr_ite, if_pos (by rfl), tr_ret]
            rfl
        · cases hf)
    (by
      rw [Nat.zero_add]
      unfold scene_mats.t0
      dsimp only
      rw [tr_ite, decide_eq_false (by omega), if_neg (by simp), tr_ret]) (rounds_gt (by omega))
  have hl : scene_mats.l0 (.nil, (0, 9223372036854775807), x.1, (x.1.length : Int), 0, ()) = _ := run
  unfold scene_mats scene_mats.t
  rw [tr_opt, hl, Option.bind_some]
  unfold wM
  cases hf : firstF (fM x) 0 x.1.length with
  | none => rfl
  | some p => rfl

theorem tris_eq (x : ScT) (hx : x.2.1.length ≤ 900) : scene_tris x = some (mkErr (wT x)) := by
  have run := iter_first (t := scene_tris.t0) (fun k => (x, .nil, (-1048576, 1048576), x.2.1, (x.2.1.length : Int), (k : Int), ())) (fT x) (fun k w => (x, mkErr (some w), (-1048576, 1048576), x.2.1, (x.2.1.length : Int), (k : Int), ())) (e := .exit 0) (z := (x, .nil, (-1048576, 1048576), x.2.1, (x.2.1.length : Int), (x.2.1.length : Int), ())) (by simp) x.2.1.length 0 rounds
    (fun k _ hk hf => by
      have hlt : k < x.2.1.length := by omega
      unfold fT at hf
      rw [List.getElem?_eq_getElem hlt, Option.bind_some] at hf
      generalize hm : x.2.1[k] = m at hf
      unfold scene_tris.t0
      dsimp only
      rw [tr_ite, decide_eq_true (by omega), if_pos rfl, tr_opt, lget_nat x.2.1 hlt, Option.bind_some, hm, tr_ite]
      unfold triW at hf
      split at hf
      · cases hf
      rename_i h1
      rw [if_neg h1, tr_opt, within3, Option.bind_some, tr_ite]
      split at hf
      · cases hf
      rename_i h2
      have h2 : (in3 m.1 (-1048576) 1048576 && in3 m.2.1 (-1048576) 1048576 && in3 m.2.2.1 (-1048576) 1048576) = true := nf h2
      simp only [Bool.and_eq_true] at h2
      obtain ⟨⟨q1, q2⟩, q3⟩ := h2
      rw [q1, if_neg (by simp), tr_opt, within3, Option.bind_some, tr_ite, q2, if_neg (by simp), tr_opt, within3, Option.bind_some, tr_ite, q3, if_neg (by simp), tr_ite, W_sub0, W_sub0, W_sub0]
      split at hf
      · cases hf
      rename_i h3
      have h3' : ¬ (W (W (m.2.1.2.1 - m.1.2.1) * W (m.2.2.1.2.2 - m.1.2.2)) == W (W (m.2.1.2.2 - m.1.2.2) * W (m.2.2.1.2.1 - m.1.2.1)) && (W (W (m.2.1.2.2 - m.1.2.2) * W (m.2.2.1.1 - m.1.1)) == W (W (m.2.1.1 - m.1.1) * W (m.2.2.1.2.2 - m.1.2.2)) && W (W (m.2.1.1 - m.1.1) * W (m.2.2.1.2.1 - m.1.2.1)) == W (W (m.2.1.2.1 - m.1.2.1) * W (m.2.2.1.1 - m.1.1)))) = true := h3
      rw [if_neg h3', tr_ret, W_succ (by omega)])
    (fun k w _ hk hf => by
      have hlt : k < x.2.1.length := by omega
      unfold fT at hf
      rw [List.getElem?_eq_getElem hlt, Option.bind_some] at hf
      generalize hm : x.2.1[k] = m at hf
      have hb : scene_bound (3, W ((k : Int) + 1)) = some (mkErr (some (10, 3, ((k + 1 : Nat) : Int)))) := by rw [nn (by omega)]; exact bound_eq (by decide)
      have hb2 : scene_broken (2, W ((k : Int) + 1)) = some (mkErr (some (11, 2, ((k + 1 : Nat) : Int)))) := by rw [nn (by omega)]; exact broken_eq (by decide)
      have hb3 : scene_broken (13, W ((k : Int) + 1)) = some (mkErr (some (11, 13, ((k + 1 : Nat) : Int)))) := by rw [nn (by omega)]; exact broken_eq (by decide)
      unfold scene_tris.t0
      dsimp only
      rw [tr_ite, decide_eq_true (by omega), if_pos rfl, tr_opt, lget_nat x.2.1 hlt, Option.bind_some, hm, tr_ite]
      unfold triW at hf
      split at hf
      · rename_i h1
        cases hf
        rw [if_pos h1, tr_opt, hb2, Option.bind_some, tr_ret]
      rename_i h1
      rw [if_neg h1, tr_opt, within3, Option.bind_some, tr_ite, tr_opt, hb]
      split at hf
      · rename_i h2
        cases hf
        cases q1 : in3 m.1 (-1048576) 1048576
        · rw [if_pos (by simp), Option.bind_some, tr_ret]
        · rw [if_neg (by simp), tr_opt, within3, Option.bind_some, tr_ite]
          cases q2 : in3 m.2.1 (-1048576) 1048576
          · rw [if_pos (by simp), tr_opt, Option.bind_some, tr_ret]
          · rw [if_neg (by simp), tr_opt, within3, Option.bind_some, tr_ite]
            cases q3 : in3 m.2.2.1 (-1048576) 1048576
            · rw [if_pos (by simp), tr_opt, Option.bind_some, tr_ret]
            · rw [q1, q2, q3] at h2; cases h2
      rename_i h2
      have h2 : (in3 m.1 (-1048576) 1048576 && in3 m.2.1 (-1048576) 1048576 && in3 m.2.2.1 (-1048576) 1048576) = true := nf h2
      simp only [Bool.and_eq_true] at h2
      obtain ⟨⟨q1, q2⟩, q3⟩ := h2
      rw [q1, if_neg (by simp), tr_opt, within3, Option.bind_some, tr_ite, q2, if_neg (by simp), tr_opt, within3, Option.bind_some, tr_ite, q3, if_neg (by simp), tr_ite, W_sub0, W_sub0, W_sub0]
      split at hf
      · rename_i h3
        cases hf
        have h3' : (W (W (m.2.1.2.1 - m.1.2.1) * W (m.2.2.1.2.2 - m.1.2.2)) == W (W (m.2.1.2.2 - m.1.2.2) * W (m.2.2.1.2.1 - m.1.2.1)) && (W (W (m.2.1.2.2 - m.1.2.2) * W (m.2.2.1.1 - m.1.1)) == W (W (m.2.1.1 - m.1.1) * W (m.2.2.1.2.2 - m.1.2.2)) && W (W (m.2.1.1 - m.1.1) * W (m.2.2.1.2.1 - m.1.2.1)) == W (W (m.2.1.2.1 - m.1.2.1) * W (m.2.2.1.1 - m.1.1)))) = true := h3
        rw [if_pos h3', tr_opt, hb3, Option.bind_some, tr_ret]
      · cases hf)
    (by
      rw [Nat.zero_add]
      unfold scene_tris.t0
      dsimp only
      rw [tr_ite, decide_eq_false (by omega), if_neg (by simp), tr_ret]) (rounds_gt (by omega))
  have hl : scene_tris.l0 (x, .nil, (-1048576, 1048576), x.2.1, (x.2.1.length : Int), 0, ()) = _ := run
  unfold scene_tris scene_tris.t
  rw [tr_opt, hl, Option.bind_some]
  unfold wT
  cases hf : firstF (fT x) 0 x.2.1.length with
  | none => rfl
  | some p => rfl
end Go.Proofs.Pen

namespace Go.Proofs.Pen
open Go Go.Proofs

theorem ConL_eq (l : List LitT) (e : LitT) (h : l.length ≤ 900) : ConL (l, e) = some (l.any fun y => e.1 == y.1) := by
  have key : ∀ (n k m : Nat) (r : Int), k + n = l.length → n < m → ∃ ex a b, (iterT IdxL.t0 m (l, e, r, (l.length : Int), (k : Int), ())).run = some (ex, l, e, a, (l.length : Int), b, ()) ∧
      ((ex = .exit 0 ∧ ((l.drop k).any fun y => e.1 == y.1) = false) ∨ (ex = .ret ∧ 0 ≤ a ∧ ((l.drop k).any fun y => e.1 == y.1) = true)) := by
    intro n
    induction n with
    | zero =>
      intro k m r hk hm
      obtain ⟨m, rfl⟩ : ∃ j, m = j + 1 := ⟨m - 1, by omega⟩
      have hd : l.drop k = [] := List.drop_eq_nil_of_le (by omega)
      rw [hd]
      refine ⟨.exit 0, r, (k : Int), iter_stop (by simp) ?_, .inl ⟨rfl, rfl⟩⟩
      unfold IdxL.t0
      dsimp only
      rw [tr_ite, decide_eq_false (by omega), if_neg (by simp), tr_ret]
    | succ n ih =>
      intro k m r hk hm
      obtain ⟨m, rfl⟩ : ∃ j, m = j + 1 := ⟨m - 1, by omega⟩
      have hlt : k < l.length := by omega
      have hd : l.drop k = l[k] :: l.drop (k + 1) := List.drop_eq_getElem_cons hlt
      rw [hd, List.any_cons]
      cases hc : e.1 == l[k].1 with
      | true =>
        refine ⟨.ret, (k : Int), (k : Int), iter_stop (by simp) ?_, .inr ⟨rfl, by omega, by simp⟩⟩
        unfold IdxL.t0
        dsimp only
        rw [tr_ite, decide_eq_true (by omega), if_pos rfl, tr_opt, lget_nat l hlt, Option.bind_some, tr_ite, hc, if_pos rfl, tr_ret]
      | false =>
        obtain ⟨ex, a, b, h1, h2⟩ := ih (k + 1) m r (by omega) (by omega)
        refine ⟨ex, a, b, ?_, by simpa using h2⟩
        have h0 : (IdxL.t0 (l, e, r, (l.length : Int), (k : Int), ())).run = some (.normal, l, e, r, (l.length : Int), ((k + 1 : Nat) : Int), ()) := by
          unfold IdxL.t0
          dsimp only
          rw [tr_ite, decide_eq_true (by omega), if_pos rfl, tr_opt, lget_nat l hlt, Option.bind_some, tr_ite, hc, if_neg (by simp), tr_ret, W_succ (by omega)]
        rw [iter_go h0]; exact h1
  obtain ⟨ex, a, b, h1, h2⟩ := key l.length 0 rounds 0 (by omega) (rounds_gt (by omega))
  rw [List.drop_zero] at h2
  have hl : IdxL.l0 (l, e, 0, (l.length : Int), 0, ()) = some (ex, l, e, a, (l.length : Int), b, ()) := h1
  have hi : ∃ i, IdxL (l, e) = some i ∧ decide (i ≥ 0) = (l.any fun y => e.1 == y.1) := by
    unfold IdxL IdxL.t
    dsimp only
    rw [tr_opt, hl, Option.bind_some]
    rcases h2 with ⟨rfl, h2⟩ | ⟨rfl, h3, h2⟩
    · exact ⟨-1, rfl, by rw [h2]; rfl⟩
    · exact ⟨a, rfl, by rw [h2]; exact decide_eq_true h3⟩
  obtain ⟨i, e1, e2⟩ := hi
  unfold ConL ConL.t
  rw [tr_opt, e1, Option.bind_some, tr_ret, e2]

theorem cells_eq (x : ScT) (e : ErrD) (hx : x.2.2.2.2.1.length ≤ 900) : scene_lights.l2 (e, (0, 67108863), x.2.2.2.2.1, (x.2.2.2.2.1.length : Int), 0, ()) =
    some (match firstF (fC x) 0 x.2.2.2.2.1.length with | some (i, w) => (.ret, mkErr (some w), (0, 67108863), x.2.2.2.2.1, (x.2.2.2.2.1.length : Int), (i : Int), ()) | none => (.exit 2, e, (0, 67108863), x.2.2.2.2.1, (x.2.2.2.2.1.length : Int), (x.2.2.2.2.1.length : Int), ())) :=
  iter_first (t := scene_lights.t2) (fun k => (e, (0, 67108863), x.2.2.2.2.1, (x.2.2.2.2.1.length : Int), (k : Int), ())) (fC x) (fun k w => (mkErr (some w), (0, 67108863), x.2.2.2.2.1, (x.2.2.2.2.1.length : Int), (k : Int), ())) (e := .exit 2) (z := (e, (0, 67108863), x.2.2.2.2.1, (x.2.2.2.2.1.length : Int), (x.2.2.2.2.1.length : Int), ())) (by simp) x.2.2.2.2.1.length 0 rounds
    (fun k _ hk hf => by
      have hlt : k < x.2.2.2.2.1.length := by omega
      unfold fC at hf
      rw [List.getElem?_eq_getElem hlt, Option.bind_some] at hf
      generalize hm : x.2.2.2.2.1[k] = m at hf
      unfold scene_lights.t2
      dsimp only
      rw [tr_ite, decide_eq_true (by omega), if_pos rfl, tr_opt, lget_nat x.2.2.2.2.1 hlt, Option.bind_some, hm, tr_opt, within3, Option.bind_some, tr_ite]
      unfold celW at hf
      split at hf
      · cases hf
      rename_i h1
      have h1 : in3 m 0 67108863 = true := nf h1
      rw [h1, if_neg (by simp), tr_ret, W_succ (by omega)])
    (fun k w _ hk hf => by
      have hlt : k < x.2.2.2.2.1.length := by omega
      unfold fC at hf
      rw [List.getElem?_eq_getElem hlt, Option.bind_some] at hf
      generalize hm : x.2.2.2.2.1[k] = m at hf
      have hb : scene_bound (3, W ((k : Int) + 1)) = some (mkErr (some (10, 3, ((k + 1 : Nat) : Int)))) := by rw [nn (by omega)]; exact bound_eq (by decide)
      unfold scene_lights.t2
      dsimp only
      rw [tr_ite, decide_eq_true (by omega), if_pos rfl, tr_opt, lget_nat x.2.2.2.2.1 hlt, Option.bind_some, hm, tr_opt, within3, Option.bind_some, tr_ite]
      unfold celW at hf
      split at hf
      · rename_i h1
        cases hf
        rw [h1, if_pos (by simp), tr_opt, hb, Option.bind_some, tr_ret]
      · cases hf)
    (by
      rw [Nat.zero_add]
      unfold scene_lights.t2
      dsimp only
      rw [tr_ite, decide_eq_false (by omega), if_neg (by simp), tr_ret]) (rounds_gt (by omega))

theorem lits_eq (x : ScT) (hx : x.2.2.1.length ≤ 900) : scene_lights.l0 (x, .nil, (0, 67108863), x.2.2.1, (x.2.2.1.length : Int), 0, ()) =
    some (match firstF (fL x) 0 x.2.2.1.length with | some (i, w) => (.ret, x, mkErr (some w), (0, 67108863), x.2.2.1, (x.2.2.1.length : Int), (i : Int), ()) | none => (.exit 0, x, .nil, (0, 67108863), x.2.2.1, (x.2.2.1.length : Int), (x.2.2.1.length : Int), ())) :=
  iter_first (t := scene_lights.t0) (fun k => (x, .nil, (0, 67108863), x.2.2.1, (x.2.2.1.length : Int), (k : Int), ())) (fL x) (fun k w => (x, mkErr (some w), (0, 67108863), x.2.2.1, (x.2.2.1.length : Int), (k : Int), ())) (e := .exit 0) (z := (x, .nil, (0, 67108863), x.2.2.1, (x.2.2.1.length : Int), (x.2.2.1.length : Int), ())) (by simp) x.2.2.1.length 0 rounds
    (fun k _ hk hf => by
      have hlt : k < x.2.2.1.length := by omega
      unfold fL at hf
      rw [List.getElem?_eq_getElem hlt, Option.bind_some] at hf
      generalize hm : x.2.2.1[k] = m at hf
      have hsl : (decide ((0 : Int) ≤ 0) && decide ((0 : Int) ≤ (k : Int)) && decide ((k : Int) ≤ (x.2.2.1.length : Int))) = true := by
        rw [decide_eq_true (by omega), decide_eq_true (by omega), decide_eq_true (by omega)]; rfl
      have hcon : ConL (List.take (Int.toNat (k : Int) - Int.toNat 0) (List.drop (Int.toNat 0) x.2.2.1), m) = some ((x.2.2.1.take k).any fun y => m.1 == y.1) := by
        have : List.take (Int.toNat (k : Int) - Int.toNat 0) (List.drop (Int.toNat 0) x.2.2.1) = x.2.2.1.take k := by simp
        rw [this]; exact ConL_eq _ _ (by rw [List.length_take]; omega)
      unfold scene_lights.t0
      dsimp only
      rw [tr_ite, decide_eq_true (by omega), if_pos rfl, tr_opt, lget_nat x.2.2.1 hlt, Option.bind_some, hm, tr_ite, hsl, if_pos rfl, tr_opt, hcon, Option.bind_some, tr_ite]
      unfold litW at hf
      split at hf
      · cases hf
      rename_i h0
      rw [if_neg h0, tr_opt, within3, Option.bind_some, tr_ite]
      split at hf
      · cases hf
      rename_i h1
      have h1 : in3 m.2 0 67108863 = true := nf h1
      rw [h1, if_neg (by simp), tr_ret, W_succ (by omega)])
    (fun k w _ hk hf => by
      have hlt : k < x.2.2.1.length := by omega
      unfold fL at hf
      rw [List.getElem?_eq_getElem hlt, Option.bind_some] at hf
      generalize hm : x.2.2.1[k] = m at hf
      have hb : scene_bound (3, W ((k : Int) + 1)) = some (mkErr (some (10, 3, ((k + 1 : Nat) : Int)))) := by rw [nn (by omega)]; exact bound_eq (by decide)
      have hb2 : scene_broken (2, W ((k : Int) + 1)) = some (mkErr (some (11, 2, ((k + 1 : Nat) : Int)))) := by rw [nn (by omega)]; exact broken_eq (by decide)
      have hsl : (decide ((0 : Int) ≤ 0) && decide ((0 : Int) ≤ (k : Int)) && decide ((k : Int) ≤ (x.2.2.1.length : Int))) = true := by
        rw [decide_eq_true (by omega), decide_eq_true (by omega), decide_eq_true (by omega)]; rfl
      have hcon : ConL (List.take (Int.toNat (k : Int) - Int.toNat 0) (List.drop (Int.toNat 0) x.2.2.1), m) = some ((x.2.2.1.take k).any fun y => m.1 == y.1) := by
        have : List.take (Int.toNat (k : Int) - Int.toNat 0) (List.drop (Int.toNat 0) x.2.2.1) = x.2.2.1.take k := by simp
        rw [this]; exact ConL_eq _ _ (by rw [List.length_take]; omega)
      unfold scene_lights.t0
      dsimp only
      rw [tr_ite, decide_eq_true (by omega), if_pos rfl, tr_opt, lget_nat x.2.2.1 hlt, Option.bind_some, hm, tr_ite, hsl, if_pos rfl, tr_opt, hcon, Option.bind_some, tr_ite]
      unfold litW at hf
      split at hf
      · rename_i h0
        cases hf
        rw [if_pos h0, tr_opt, hb2, Option.bind_some, tr_ret]
      rename_i h0
      rw [if_neg h0, tr_opt, within3, Option.bind_some, tr_ite]
      split at hf
      · rename_i h1
        cases hf
        rw [h1, if_pos (by simp), tr_opt, hb, Option.bind_some, tr_ret]
      · cases hf)
    (by
      rw [Nat.zero_add]
      unfold scene_lights.t0
      dsimp only
      rw [tr_ite, decide_eq_false (by omega), if_neg (by simp), tr_ret]) (rounds_gt (by omega))

theorem lights_eq (x : ScT) (hx : x.2.2.1.length ≤ 900) (hc : x.2.2.2.2.1.length ≤ 900) : scene_lights x = some (mkErr (orElse' (wL x) (wZ x))) := by
  have hb : scene_bound (3, 0) = some (mkErr (some (10, 3, 0))) := bound_eq (by decide)
  have hb2 : scene_broken (14, 0) = some (mkErr (some (11, 14, 0))) := broken_eq (by decide)
  unfold scene_lights scene_lights.t
  rw [tr_opt, lits_eq x hx, Option.bind_some]
  unfold wL
  cases hf : firstF (fL x) 0 x.2.2.1.length with
  | some p => rfl
  | none =>
    dsimp only
    rw [tr_ite, if_pos (by rfl), tr_ite, tr_opt, hb, Option.bind_some, tr_ret]
    show _ = some (mkErr (wZ x))
    unfold wZ
    by_cases h1 : decide (x.2.2.2.1 < 0) = true
    · rw [if_pos h1, if_pos h1]
    · rw [if_neg h1, if_neg h1, tr_ite, tr_opt, hb2, Option.bind_some, tr_ret]
      by_cases h2 : ((x.2.2.2.2.1.length : Int) != W (8 * x.2.2.2.1)) = true
      · rw [if_pos h2, if_pos h2]
      · rw [if_neg h2, if_neg h2, tr_opt, cells_eq x .nil hc, Option.bind_some]
        unfold wC
        cases hf : firstF (fC x) 0 x.2.2.2.2.1.length with
        | some p => rfl
        | none => rfl

theorem camera_eq (x : ScT) : scene_camera x = some (mkErr (camW x)) := by
  have hb : scene_bound (3, 0) = some (mkErr (some (10, 3, 0))) := bound_eq (by decide)
  have hb2 : scene_broken (13, 0) = some (mkErr (some (11, 13, 0))) := broken_eq (by decide)
  have hb3 : scene_broken (2, 0) = some (mkErr (some (11, 2, 0))) := broken_eq (by decide)
  unfold scene_camera scene_camera.t camW
  dsimp only
  rw [tr_opt, within3, Option.bind_some, tr_ite, tr_opt, hb, Option.bind_some, tr_ret]
  cases q1 : in3 x.2.2.2.2.2.1.1 (-1048576) 1048576
  · rw [if_pos (by rfl), if_pos (by rfl)]
  rw [if_neg (by simp), tr_opt, within3, Option.bind_some, tr_ite, tr_opt, Option.bind_some, tr_ret]
  cases q2 : in3 x.2.2.2.2.2.1.2.1 (-1048576) 1048576
  · rw [if_pos (by rfl), if_pos (by rfl)]
  rw [if_neg (by simp), tr_opt, within3, Option.bind_some, tr_ite, tr_opt, Option.bind_some, tr_ret]
  cases q3 : in3 x.2.2.2.2.2.1.2.2.1 (-1048576) 1048576
  · rw [if_pos (by rfl), if_pos (by rfl)]
  have hw2 : scene_within_1 (List.take 2 [x.2.2.2.2.2.1.2.2.2.1, x.2.2.2.2.2.1.2.2.2.2.2], 1, 1048576) = some (inB 1 1048576 [x.2.2.2.2.2.1.2.2.2.1, x.2.2.2.2.2.1.2.2.2.2.2]) := within_eq _ _ _ _ (by simp)
  have hi2 : inB 1 1048576 [x.2.2.2.2.2.1.2.2.2.1, x.2.2.2.2.2.1.2.2.2.2.2] = ((decide (1 ≤ x.2.2.2.2.2.1.2.2.2.1) && decide (x.2.2.2.2.2.1.2.2.2.1 ≤ 1048576)) && (decide (1 ≤ x.2.2.2.2.2.1.2.2.2.2.2) && decide (x.2.2.2.2.2.1.2.2.2.2.2 ≤ 1048576))) := by
    unfold inB; simp only [List.all_cons, List.all_nil, Bool.and_true]
  rw [if_neg (by simp), tr_opt, hw2, Option.bind_some, tr_ite, tr_opt, Option.bind_some, tr_ret, hi2]
  cases q4 : (decide (1 ≤ x.2.2.2.2.2.1.2.2.2.1) && decide (x.2.2.2.2.2.1.2.2.2.1 ≤ 1048576))
  · rw [if_pos (by rfl), if_pos (by rfl)]
  cases q5 : (decide (1 ≤ x.2.2.2.2.2.1.2.2.2.2.2) && decide (x.2.2.2.2.2.1.2.2.2.2.2 ≤ 1048576))
  · rw [if_pos (by rfl), if_pos (by rfl)]
  rw [if_neg (by simp), tr_opt, within1, Option.bind_some, tr_ite, tr_opt, Option.bind_some, tr_ret]
  cases q6 : (decide (0 ≤ x.2.2.2.2.2.1.2.2.2.2.1) && decide (x.2.2.2.2.2.1.2.2.2.2.1 ≤ 1048576))
  · rw [if_pos (by rfl), if_pos (by rfl)]
  rw [if_neg (by simp), if_neg (by simp), tr_ite, W_sub0, W_sub0, W_sub0, tr_opt, hb2, Option.bind_some, tr_ret]
  have hfl : (W (W (x.2.2.2.2.2.1.2.1.2.1 - x.2.2.2.2.2.1.1.2.1) * x.2.2.2.2.2.1.2.2.1.2.2) == W (W (x.2.2.2.2.2.1.2.1.2.2 - x.2.2.2.2.2.1.1.2.2) * x.2.2.2.2.2.1.2.2.1.2.1) && (W (W (x.2.2.2.2.2.1.2.1.2.2 - x.2.2.2.2.2.1.1.2.2) * x.2.2.2.2.2.1.2.2.1.1) == W (W (x.2.2.2.2.2.1.2.1.1 - x.2.2.2.2.2.1.1.1) * x.2.2.2.2.2.1.2.2.1.2.2) && W (W (x.2.2.2.2.2.1.2.1.1 - x.2.2.2.2.2.1.1.1) * x.2.2.2.2.2.1.2.2.1.2.1) == W (W (x.2.2.2.2.2.1.2.1.2.1 - x.2.2.2.2.2.1.1.2.1) * x.2.2.2.2.2.1.2.2.1.1))) = flatB (lessW x.2.2.2.2.2.1.2.1 x.2.2.2.2.2.1.1) x.2.2.2.2.2.1.2.2.1 := rfl
  rw [hfl]
  cases q7 : flatB (lessW x.2.2.2.2.2.1.2.1 x.2.2.2.2.2.1.1) x.2.2.2.2.2.1.2.2.1
  · rw [if_neg (by simp), if_neg (by simp), tr_ite, tr_opt, hb3, Option.bind_some, tr_ret]
    cases q8 : (x.2.2.2.2.2.2.1 != 1 && x.2.2.2.2.2.2.1 != 2)
    · rw [if_neg (by simp), if_neg (by simp), tr_opt, within1, Option.bind_some, tr_ite, tr_opt, Option.bind_some, tr_ret]
      cases q9 : (decide (1 ≤ x.2.2.2.2.2.2.2) && decide (x.2.2.2.2.2.2.2 ≤ 8192))
      · rw [if_pos (by rfl), if_pos (by rfl)]
      · rw [if_neg (by simp), if_neg (by simp)]; rfl
    · rw [if_pos (by rfl), if_pos (by rfl)]
  · rw [if_pos (by rfl), if_pos (by rfl)]

theorem mkErr_nil (w : Option W3) : (mkErr w).isNil = w.isNone := by cases w <;> rfl

theorem Check_eq (x : ScT) (h : lightB x) : scene_Check x = some (mkErr (wr x)) := by
  obtain ⟨h1, h2, h3, h4⟩ := h
  have hb : scene_bound (4, 0) = some (mkErr (some (10, 4, 0))) := bound_eq (by decide)
  have hm : scene_many x = some (mkErr (if bigB x = true then some (10, 4, 0) else none)) := by
    unfold scene_many scene_many.t
    rw [tr_ite, tr_opt, hb, Option.bind_some, tr_ret]
    show (if bigB x = true then _ else _) = _
    by_cases hbig : bigB x = true
    · rw [if_pos hbig, if_pos hbig]
    · rw [if_neg hbig, if_neg hbig]; rfl
  unfold scene_Check scene_Check.t wr
  rw [tr_opt, hm, Option.bind_some, tr_ite, mkErr_nil]
  by_cases hbig : bigB x = true
  · rw [if_pos hbig, if_pos (by rfl), tr_ret, if_pos hbig]
  · rw [if_neg hbig, if_neg (by simp), tr_opt, mats_eq x h1, Option.bind_some, tr_ite, mkErr_nil, if_neg hbig]
    cases e1 : wM x with
    | some w => rfl
    | none =>
      rw [if_neg (by simp), tr_opt, tris_eq x h2, Option.bind_some, tr_ite, mkErr_nil]
      cases e2 : wT x with
      | some w => rfl
      | none =>
        rw [if_neg (by simp), tr_opt, lights_eq x h3 h4, Option.bind_some, tr_ite, mkErr_nil]
        show _ = some (mkErr (orElse' (orElse' (wL x) (wZ x)) (camW x)))
        cases e3 : orElse' (wL x) (wZ x) with
        | some w => rw [if_pos (by rfl), tr_ret]; rfl
        | none => rw [if_neg (by simp), tr_opt, camera_eq, Option.bind_some, tr_ret]; rfl
end Go.Proofs.Pen

namespace Go.Proofs.Pen
open Go Go.Proofs

theorem tr_yes {α : Type} {b : Bool} {x y : T α} (h : b = true) : (T.ite b x y).run = x.run := by rw [tr_ite, if_pos h]
theorem tr_no {α : Type} {b : Bool} {x y : T α} (h : b = false) : (T.ite b x y).run = y.run := by rw [tr_ite, h, if_neg (by simp)]
theorem beqC (a b : Int) : (a == b) = (b == a) := by
  rw [Bool.eq_iff_iff, beq_iff_eq, beq_iff_eq]; exact eq_comm

theorem rmat_eq (m : MatT) (p : Int) : ref22_mat (m, p) = some (mkW (matW m p)) := by
  unfold ref22_mat ref22_mat.t
  show ((T.ite (decide (m.2.2 < 1) || decide (m.2.2 > 1024)) (T.ret (10, 3, p)) (T.ite (!(in3 m.1 0 9223372036854775807)) (T.ret (10, 3, p)) (T.ite (!(in3 m.2.1 0 9223372036854775807)) (T.ret (10, 3, p)) (T.ite (!(in3 m.1 0 1023) || decide (m.2.1.1 > W (1023 - m.1.1)) || decide (m.2.1.2.1 > W (1023 - m.1.2.1)) || decide (m.2.1.2.2 > W (1023 - m.1.2.2))) (T.ret (11, 4, p)) (T.ret (0, 0, 0)))))).run : Option W3) = _
  unfold matW
  rw [tr_ite, tr_ret, tr_ite, tr_ret, tr_ite, tr_ret, tr_ite, tr_ret, tr_ret]
  have e0 : (decide (m.2.2 < 1) || decide (m.2.2 > 1024)) = !(decide (1 ≤ m.2.2) && decide (m.2.2 ≤ 1024)) := by
    rw [Bool.eq_iff_iff]; first | (simp; done) | (simp; omega)
  rw [e0]
  cases q1 : (decide (1 ≤ m.2.2) && decide (m.2.2 ≤ 1024))
  · rfl
  cases q3 : in3 m.1 0 9223372036854775807
  · rfl
  cases q4 : in3 m.2.1 0 9223372036854775807
  · rfl
  simp only [Bool.not_true, Bool.false_eq_true, if_false, Bool.and_self, Bool.true_eq_false]
  obtain ⟨⟨a1, a2⟩, ⟨a3, a4⟩, a5, a6⟩ := in3_iff.1 q3
  obtain ⟨⟨b1, b2⟩, ⟨b3, b4⟩, b5, b6⟩ := in3_iff.1 q4
  have e : (!(in3 m.1 0 1023) || decide (m.2.1.1 > W (1023 - m.1.1)) || decide (m.2.1.2.1 > W (1023 - m.1.2.1)) || decide (m.2.1.2.2 > W (1023 - m.1.2.2))) = (over1 m.1.1 m.2.1.1 || over1 m.1.2.1 m.2.1.2.1 || over1 m.1.2.2 m.2.1.2.2) := by
    rw [W_id (by omega) (by omega), W_id (by omega) (by omega), W_id (by omega) (by omega), Bool.eq_iff_iff]
    unfold over1 in3
    simp only [Bool.or_eq_true, Bool.not_eq_true', Bool.and_eq_false_iff, decide_eq_true_eq, decide_eq_false_iff_not, ge_iff_le, gt_iff_lt]
    omega
  rw [e]
  cases (over1 m.1.1 m.2.1.1 || over1 m.1.2.1 m.2.1.2.1 || over1 m.1.2.2 m.2.1.2.2) <;> rfl

theorem rtri_eq (t : TriT) (nm p : Int) : ref22_tri (t, nm, p) = some (mkW (triW nm t p)) := by
  have hfl : (W (W (t.2.1.2.1 - t.1.2.1) * W (t.2.2.1.2.2 - t.1.2.2)) == W (W (t.2.1.2.2 - t.1.2.2) * W (t.2.2.1.2.1 - t.1.2.1)) && W (W (t.2.1.2.2 - t.1.2.2) * W (t.2.2.1.1 - t.1.1)) == W (W (t.2.1.1 - t.1.1) * W (t.2.2.1.2.2 - t.1.2.2)) && W (W (t.2.1.1 - t.1.1) * W (t.2.2.1.2.1 - t.1.2.1)) == W (W (t.2.1.2.1 - t.1.2.1) * W (t.2.2.1.1 - t.1.1))) = flatB (lessW t.2.1 t.1) (lessW t.2.2.1 t.1) := by
    rw [Bool.and_assoc]; rfl
  unfold ref22_tri ref22_tri.t
  dsimp only
  rw [hfl]
  show ((T.ite (decide (t.2.2.2 < 0) || decide (t.2.2.2 ≥ nm)) (T.ret (11, 2, p)) (T.ite (!(in3 t.1 (-1048576) 1048576)) (T.ret (10, 3, p)) (T.ite (!(in3 t.2.1 (-1048576) 1048576)) (T.ret (10, 3, p)) (T.ite (!(in3 t.2.2.1 (-1048576) 1048576)) (T.ret (10, 3, p)) (T.ite (flatB (lessW t.2.1 t.1) (lessW t.2.2.1 t.1)) (T.ret (11, 13, p)) (T.ret (0, 0, 0))))))).run : Option W3) = _
  unfold triW
  rw [tr_ite, tr_ret, tr_ite, tr_ret, tr_ite, tr_ret, tr_ite, tr_ret, tr_ite, tr_ret, tr_ret]
  cases (decide (t.2.2.2 < 0) || decide (t.2.2.2 ≥ nm)) <;> cases in3 t.1 (-1048576) 1048576 <;> cases in3 t.2.1 (-1048576) 1048576 <;> cases in3 t.2.2.1 (-1048576) 1048576 <;> cases flatB (lessW t.2.1 t.1) (lessW t.2.2.1 t.1) <;> rfl

theorem twice_eq (l : List LitT) (k : Nat) (nt : Int) (hk : k < l.length) (hl : l.length ≤ 900) : ∃ j, ref22_light.l0 (l, (k : Int), nt, (0, 0, 0), false, 0, ()) = some (.exit 0, l, (k : Int), nt, (0, 0, 0), (l.take k).any fun y => l[k].1 == y.1, j, ()) := by
  have := iter_count (t := ref22_light.t0) (fun i => ((l, (k : Int), nt, (0, 0, 0), (l.take i).any fun y => l[k].1 == y.1, (i : Int), ()) : List LitT × Int × Int × W3 × Bool × Int × Unit)) (e := .exit 0) (z := (l, (k : Int), nt, (0, 0, 0), (l.take k).any fun y => l[k].1 == y.1, (k : Int), ())) (by simp) k 0 rounds (fun i _ hi => ?_) ?_ (rounds_gt (by omega))
  · exact ⟨(k : Int), this⟩
  · have hlt : i < l.length := by omega
    have hs : ((l.take (i + 1)).any fun y => l[k].1 == y.1) = (((l.take i).any fun y => l[k].1 == y.1) || (l[i].1 == l[k].1)) := by
      rw [List.take_succ_eq_append_getElem hlt, List.any_append, beqC l[i].1]; simp
    unfold ref22_light.t0
    dsimp only
    rw [tr_ite, decide_eq_true (by omega), if_pos rfl, tr_ite, hs, tr_opt, lget_nat l hlt, Option.bind_some, tr_opt, lget_nat l hk, Option.bind_some, tr_ret, tr_ret, W_succ (by omega)]
    cases (l.take i).any fun y => l[k].1 == y.1
    · rw [if_neg (by simp), Bool.false_or]
    · rw [if_pos rfl, Bool.true_or]
  · rw [Nat.zero_add]
    unfold ref22_light.t0
    dsimp only
    rw [tr_ite, decide_eq_false (by omega), if_neg (by simp), tr_ret]

theorem rlit_eq (l : List LitT) (k : Nat) (nt : Int) (hk : k < l.length) (hl : l.length ≤ 900) : ref22_light (l, (k : Int), nt) = some (mkW (litW nt (l.take k) l[k] ((k + 1 : Nat) : Int))) := by
  obtain ⟨j, hj⟩ := twice_eq l k nt hk hl
  unfold ref22_light ref22_light.t
  dsimp only
  rw [tr_opt, hj, Option.bind_some, tr_ite, if_pos (by rfl), tr_opt]
  dsimp only
  rw [lget_nat l hk, Option.bind_some, tr_ite, W_succ (by omega), tr_ret, tr_opt, Option.bind_some, tr_ite, tr_ret, tr_opt, Option.bind_some, tr_ite, tr_ret, tr_ret]
  unfold litW
  have hin : (decide (l[k].2.1 ≥ 0) && decide (l[k].2.1 ≤ 67108863) && decide (l[k].2.2.1 ≥ 0) && decide (l[k].2.2.1 ≤ 67108863) && decide (l[k].2.2.2 ≥ 0) && decide (l[k].2.2.2 ≤ 67108863)) = in3 l[k].2 0 67108863 := rfl
  rw [hin]
  cases decide (l[k].1 < 0) <;> cases decide (l[k].1 ≥ nt) <;> cases ((l.take k).any fun y => l[k].1 == y.1) <;> cases in3 l[k].2 0 67108863 <;> rfl

theorem rcells_eq (x : ScT) (hx : x.2.2.2.2.1.length ≤ 900) : ref22_rest.l0 (x, (0, 0, 0), 0, ()) =
    some (match firstF (fC x) 0 x.2.2.2.2.1.length with | some (i, w) => (.ret, x, w, (i : Int), ()) | none => (.exit 0, x, (0, 0, 0), (x.2.2.2.2.1.length : Int), ())) :=
  iter_first (t := ref22_rest.t0) (fun k => (x, (0, 0, 0), (k : Int), ())) (fC x) (fun k w => (x, w, (k : Int), ())) (e := .exit 0) (z := (x, (0, 0, 0), (x.2.2.2.2.1.length : Int), ())) (by simp) x.2.2.2.2.1.length 0 rounds
    (fun k _ hk hf => by
      have hlt : k < x.2.2.2.2.1.length := by omega
      unfold fC at hf
      rw [List.getElem?_eq_getElem hlt, Option.bind_some] at hf
      generalize hm : x.2.2.2.2.1[k] = m at hf
      unfold celW at hf
      split at hf
      · cases hf
      rename_i h1
      have h1 : (decide (m.1 ≥ 0) && decide (m.1 ≤ 67108863) && decide (m.2.1 ≥ 0) && decide (m.2.1 ≤ 67108863) && decide (m.2.2 ≥ 0) && decide (m.2.2 ≤ 67108863)) = true := by
        have : in3 m 0 67108863 = true := by simpa using h1
        exact this
      unfold ref22_rest.t0
      dsimp only
      rw [tr_ite, decide_eq_true (by omega), if_pos rfl, tr_opt, lget_nat x.2.2.2.2.1 hlt, Option.bind_some, hm, tr_ite, h1, if_neg (by simp), tr_ret, W_succ (by omega)])
    (fun k w _ hk hf => by
      have hlt : k < x.2.2.2.2.1.length := by omega
      unfold fC at hf
      rw [List.getElem?_eq_getElem hlt, Option.bind_some] at hf
      generalize hm : x.2.2.2.2.1[k] = m at hf
      unfold celW at hf
      split at hf
      · rename_i h1
        cases hf
        have h1 : (decide (m.1 ≥ 0) && decide (m.1 ≤ 67108863) && decide (m.2.1 ≥ 0) && decide (m.2.1 ≤ 67108863) && decide (m.2.2 ≥ 0) && decide (m.2.2 ≤ 67108863)) = false := h1
        unfold ref22_rest.t0
        dsimp only
        rw [tr_ite, decide_eq_true (by omega), if_pos rfl, tr_opt, lget_nat x.2.2.2.2.1 hlt, Option.bind_some, hm, tr_ite, h1, if_pos (by rfl), tr_ret, nn (by omega)]
      · cases hf)
    (by
      rw [Nat.zero_add]
      unfold ref22_rest.t0
      dsimp only
      rw [tr_ite, decide_eq_false (by omega), if_neg (by simp), tr_ret]) (rounds_gt (by omega))

theorem bor_false {a b : Bool} (h : (a && b) = true) : a = true ∧ b = true := by simpa using h

theorem W_sub_zero {a : Int} (h1 : -1048576 ≤ a) (h2 : a ≤ 1048576) : W (a - 0) = a := by rw [Int.sub_zero]; exact W_id (by omega) (by omega)

theorem rest_eq (x : ScT) (hx : x.2.2.2.2.1.length ≤ 900) : ref22_rest x = some (mkW (orElse' (wZ x) (camW x))) := by
  unfold ref22_rest ref22_rest.t wZ
  rw [tr_ite, tr_ret]
  by_cases h1 : decide (x.2.2.2.1 < 0) = true
  · rw [if_pos h1, if_pos h1]; rfl
  rw [if_neg h1, if_neg h1, tr_ite, tr_ret]
  by_cases h2 : ((x.2.2.2.2.1.length : Int) != W (8 * x.2.2.2.1)) = true
  · rw [if_pos h2, if_pos h2]; rfl
  rw [if_neg h2, if_neg h2, tr_opt, rcells_eq x hx, Option.bind_some]
  unfold wC
  cases hf : firstF (fC x) 0 x.2.2.2.2.1.length with
  | some p => rfl
  | none =>
    dsimp only
    rw [tr_ite, if_pos (by rfl)]
    show _ = some (mkW (camW x))
    unfold camW
    dsimp only
    generalize hc : x.2.2.2.2.2.1 = c
    have e1 : (decide (c.1.1 ≥ -1048576) && decide (c.1.1 ≤ 1048576) && decide (c.1.2.1 ≥ -1048576) && decide (c.1.2.1 ≤ 1048576) && decide (c.1.2.2 ≥ -1048576) && decide (c.1.2.2 ≤ 1048576)) = in3 c.1 (-1048576) 1048576 := rfl
    have e2 : (decide (c.2.1.1 ≥ -1048576) && decide (c.2.1.1 ≤ 1048576) && decide (c.2.1.2.1 ≥ -1048576) && decide (c.2.1.2.1 ≤ 1048576) && decide (c.2.1.2.2 ≥ -1048576) && decide (c.2.1.2.2 ≤ 1048576)) = in3 c.2.1 (-1048576) 1048576 := rfl
    have e3 : (decide (c.2.2.1.1 ≥ -1048576) && decide (c.2.2.1.1 ≤ 1048576) && decide (c.2.2.1.2.1 ≥ -1048576) && decide (c.2.2.1.2.1 ≤ 1048576) && decide (c.2.2.1.2.2 ≥ -1048576) && decide (c.2.2.1.2.2 ≤ 1048576)) = in3 c.2.2.1 (-1048576) 1048576 := rfl
    rw [e1, e2, e3, tr_ite, tr_ret, tr_ite, tr_ret, tr_ite, tr_ret, tr_ite, tr_ret, tr_ite, tr_ret, tr_ite, tr_ret, tr_ret]
    cases q1 : in3 c.1 (-1048576) 1048576
    · rfl
    cases q2 : in3 c.2.1 (-1048576) 1048576
    · rfl
    cases q3 : in3 c.2.2.1 (-1048576) 1048576
    · rfl
    have e4 : (!true || decide (c.2.2.2.1 < 1) || decide (c.2.2.2.1 > 1048576) || decide (c.2.2.2.2.1 < 0) || decide (c.2.2.2.2.1 > 1048576) || decide (c.2.2.2.2.2 < 1) || decide (c.2.2.2.2.2 > 1048576)) =
        !(true && true && true && (decide (1 ≤ c.2.2.2.1) && decide (c.2.2.2.1 ≤ 1048576)) && (decide (1 ≤ c.2.2.2.2.2) && decide (c.2.2.2.2.2 ≤ 1048576)) && (decide (0 ≤ c.2.2.2.2.1) && decide (c.2.2.2.2.1 ≤ 1048576))) := by
      rw [Bool.eq_iff_iff]; first | (simp; done) | (simp; omega)
    rw [e4]
    cases (true && true && true && (decide (1 ≤ c.2.2.2.1) && decide (c.2.2.2.1 ≤ 1048576)) && (decide (1 ≤ c.2.2.2.2.2) && decide (c.2.2.2.2.2 ≤ 1048576)) && (decide (0 ≤ c.2.2.2.2.1) && decide (c.2.2.2.2.1 ≤ 1048576)))
    · rfl
    simp only [Bool.not_true, Bool.false_eq_true, if_false, Bool.true_eq_false]
    obtain ⟨⟨a1, a2⟩, ⟨a3, a4⟩, a5, a6⟩ := in3_iff.1 q3
    have e5 : (W (W (c.2.1.2.1 - c.1.2.1) * W (c.2.2.1.2.2 - 0)) == W (W (c.2.1.2.2 - c.1.2.2) * W (c.2.2.1.2.1 - 0)) && W (W (c.2.1.2.2 - c.1.2.2) * W (c.2.2.1.1 - 0)) == W (W (c.2.1.1 - c.1.1) * W (c.2.2.1.2.2 - 0)) && W (W (c.2.1.1 - c.1.1) * W (c.2.2.1.2.1 - 0)) == W (W (c.2.1.2.1 - c.1.2.1) * W (c.2.2.1.1 - 0))) = flatB (lessW c.2.1 c.1) c.2.2.1 := by
      rw [W_sub_zero a1 a2, W_sub_zero a3 a4, W_sub_zero a5 a6, Bool.and_assoc]; rfl
    rw [e5]
    have e6 : (decide (x.2.2.2.2.2.2.2 < 1) || decide (x.2.2.2.2.2.2.2 > 8192)) = !(decide (1 ≤ x.2.2.2.2.2.2.2) && decide (x.2.2.2.2.2.2.2 ≤ 8192)) := by
      rw [Bool.eq_iff_iff]; first | (simp; done) | (simp; omega)
    rw [e6]
    cases flatB (lessW c.2.1 c.1) c.2.2.1 <;> cases (x.2.2.2.2.2.2.1 != 1 && x.2.2.2.2.2.2.1 != 2) <;> cases (decide (1 ≤ x.2.2.2.2.2.2.2) && decide (x.2.2.2.2.2.2.2 ≤ 8192)) <;> rfl

/-! Each fault has a code. -/
def codeOK (w : W3) : Prop := (w.1 = 10 ∨ w.1 = 11) ∧ ¬ (w.2.1 = 0)
theorem matW_ok {m : MatT} {p : Int} {w : W3} (h : matW m p = some w) : codeOK w := by
  unfold matW at h
  split at h
  · cases h; exact ⟨.inl rfl, by simp⟩
  · split at h
    · cases h; exact ⟨.inr rfl, by simp⟩
    · cases h
theorem triW_ok {n : Int} {m : TriT} {p : Int} {w : W3} (h : triW n m p = some w) : codeOK w := by
  unfold triW at h
  split at h
  · cases h; exact ⟨.inr rfl, by simp⟩
  · split at h
    · cases h; exact ⟨.inl rfl, by simp⟩
    · split at h
      · cases h; exact ⟨.inr rfl, by simp⟩
      · cases h
theorem litW_ok {n : Int} {a : List LitT} {m : LitT} {p : Int} {w : W3} (h : litW n a m p = some w) : codeOK w := by
  unfold litW at h
  split at h
  · cases h; exact ⟨.inr rfl, by simp⟩
  · split at h
    · cases h; exact ⟨.inl rfl, by simp⟩
    · cases h
theorem celW_ok {m : W3} {p : Int} {w : W3} (h : celW m p = some w) : codeOK w := by
  unfold celW at h
  split at h
  · cases h; exact ⟨.inl rfl, by simp⟩
  · cases h
theorem camW_ok {x : ScT} {w : W3} (h : camW x = some w) : codeOK w := by
  unfold camW at h
  dsimp only at h
  split at h
  · cases h; exact ⟨.inl rfl, by simp⟩
  · split at h
    · cases h; exact ⟨.inr rfl, by simp⟩
    · split at h
      · cases h; exact ⟨.inr rfl, by simp⟩
      · split at h
        · cases h; exact ⟨.inl rfl, by simp⟩
        · cases h

theorem codeOK.zero {w : W3} (h : codeOK w) : (w.1 == 0 && (w.2.1 == 0 && w.2.2 == 0)) = false := by
  obtain ⟨h1 | h1, _⟩ := h <;> rw [h1] <;> rfl

theorem codeOK.go {w : W3} (h : codeOK w) : (!((mkW (some w)).1 == 0 && ((mkW (some w)).2.1 == 0 && (mkW (some w)).2.2 == 0))) = true := by
  have := h.zero
  show (!(w.1 == 0 && (w.2.1 == 0 && w.2.2 == 0))) = true
  rw [this]; rfl

theorem fM_ok {x : ScT} {k : Nat} {w : W3} (h : fM x k = some w) : codeOK w := by
  unfold fM at h; rw [Option.bind_eq_some_iff] at h; obtain ⟨m, _, h⟩ := h; exact matW_ok h
theorem fT_ok {x : ScT} {k : Nat} {w : W3} (h : fT x k = some w) : codeOK w := by
  unfold fT at h; rw [Option.bind_eq_some_iff] at h; obtain ⟨m, _, h⟩ := h; exact triW_ok h
theorem fL_ok {x : ScT} {k : Nat} {w : W3} (h : fL x k = some w) : codeOK w := by
  unfold fL at h; rw [Option.bind_eq_some_iff] at h; obtain ⟨m, _, h⟩ := h; exact litW_ok h
theorem fC_ok {x : ScT} {k : Nat} {w : W3} (h : fC x k = some w) : codeOK w := by
  unfold fC at h; rw [Option.bind_eq_some_iff] at h; obtain ⟨m, _, h⟩ := h; exact celW_ok h

theorem first_ok {f : Nat → Option W3} {n : Nat} {w : W3} (hf : ∀ {k w}, f k = some w → codeOK w) (h : (firstF f 0 n).map (·.2) = some w) : codeOK w := by
  rw [Option.map_eq_some_iff] at h
  obtain ⟨⟨i, v⟩, h1, rfl⟩ := h
  exact hf (firstF_some h1).2.2

theorem wr_ok {x : ScT} {w : W3} (h : wr x = some w) : codeOK w := by
  unfold wr at h
  split at h
  · cases h; exact ⟨.inl rfl, by simp⟩
  have ho : ∀ {a b : Option W3}, orElse' a b = some w → a = some w ∨ b = some w := by
    intro a b h; cases a with
    | some v => exact .inl h
    | none => exact .inr h
  rcases ho h with h | h
  · exact first_ok fM_ok h
  rcases ho h with h | h
  · exact first_ok fT_ok h
  rcases ho h with h | h
  · rcases ho h with h | h
    · exact first_ok fL_ok h
    · unfold wZ at h
      split at h
      · cases h; exact ⟨.inl rfl, by simp⟩
      · split at h
        · cases h; exact ⟨.inr rfl, by simp⟩
        · exact first_ok fC_ok h
  · exact camW_ok h

theorem rmats (x : ScT) (hx : x.1.length ≤ 900) : ref22_Check.l0 (x, (0, 0, 0), 0, ()) =
    some (match firstF (fM x) 0 x.1.length with | some (i, w) => (.ret, x, w, (i : Int), ()) | none => (.exit 0, x, (0, 0, 0), (x.1.length : Int), ())) :=
  iter_first (t := ref22_Check.t0) (fun k => (x, (0, 0, 0), (k : Int), ())) (fM x) (fun k w => (x, w, (k : Int), ())) (e := .exit 0) (z := (x, (0, 0, 0), (x.1.length : Int), ())) (by simp) x.1.length 0 rounds
    (fun k _ hk hf => by
      have hlt : k < x.1.length := by omega
      unfold fM at hf
      rw [List.getElem?_eq_getElem hlt, Option.bind_some] at hf
      unfold ref22_Check.t0
      dsimp only
      rw [tr_ite, decide_eq_true (by omega), if_pos rfl, tr_opt, lget_nat x.1 hlt, Option.bind_some, nn (by omega), tr_opt, rmat_eq, hf, Option.bind_some, tr_ite, if_neg (by simp [mkW]), tr_ret])
    (fun k w _ hk hf => by
      have hlt : k < x.1.length := by omega
      have hok := fM_ok hf
      unfold fM at hf
      rw [List.getElem?_eq_getElem hlt, Option.bind_some] at hf
      unfold ref22_Check.t0
      dsimp only
      rw [tr_ite, decide_eq_true (by omega), if_pos rfl, tr_opt, lget_nat x.1 hlt, Option.bind_some, nn (by omega), tr_opt, rmat_eq, hf, Option.bind_some, tr_ite, if_pos (hok.go)]; rfl)
    (by
      rw [Nat.zero_add]
      unfold ref22_Check.t0
      dsimp only
      rw [tr_ite, decide_eq_false (by omega), if_neg (by simp), tr_ret]) (rounds_gt (by omega))

theorem rtris (x : ScT) (hx : x.2.1.length ≤ 900) : ref22_Check.l2 (x, (0, 0, 0), 0, ()) =
    some (match firstF (fT x) 0 x.2.1.length with | some (i, w) => (.ret, x, w, (i : Int), ()) | none => (.exit 2, x, (0, 0, 0), (x.2.1.length : Int), ())) :=
  iter_first (t := ref22_Check.t2) (fun k => (x, (0, 0, 0), (k : Int), ())) (fT x) (fun k w => (x, w, (k : Int), ())) (e := .exit 2) (z := (x, (0, 0, 0), (x.2.1.length : Int), ())) (by simp) x.2.1.length 0 rounds
    (fun k _ hk hf => by
      have hlt : k < x.2.1.length := by omega
      unfold fT at hf
      rw [List.getElem?_eq_getElem hlt, Option.bind_some] at hf
      unfold ref22_Check.t2
      dsimp only
      rw [tr_ite, decide_eq_true (by omega), if_pos rfl, tr_opt, lget_nat x.2.1 hlt, Option.bind_some, nn (by omega), tr_opt, rtri_eq, hf, Option.bind_some, tr_ite, if_neg (by simp [mkW]), tr_ret])
    (fun k w _ hk hf => by
      have hlt : k < x.2.1.length := by omega
      have hok := fT_ok hf
      unfold fT at hf
      rw [List.getElem?_eq_getElem hlt, Option.bind_some] at hf
      unfold ref22_Check.t2
      dsimp only
      rw [tr_ite, decide_eq_true (by omega), if_pos rfl, tr_opt, lget_nat x.2.1 hlt, Option.bind_some, nn (by omega), tr_opt, rtri_eq, hf, Option.bind_some, tr_ite, if_pos (hok.go)]; rfl)
    (by
      rw [Nat.zero_add]
      unfold ref22_Check.t2
      dsimp only
      rw [tr_ite, decide_eq_false (by omega), if_neg (by simp), tr_ret]) (rounds_gt (by omega))

theorem rlits (x : ScT) (hx : x.2.2.1.length ≤ 900) : ref22_Check.l4 (x, (0, 0, 0), 0, ()) =
    some (match firstF (fL x) 0 x.2.2.1.length with | some (i, w) => (.ret, x, w, (i : Int), ()) | none => (.exit 4, x, (0, 0, 0), (x.2.2.1.length : Int), ())) :=
  iter_first (t := ref22_Check.t4) (fun k => (x, (0, 0, 0), (k : Int), ())) (fL x) (fun k w => (x, w, (k : Int), ())) (e := .exit 4) (z := (x, (0, 0, 0), (x.2.2.1.length : Int), ())) (by simp) x.2.2.1.length 0 rounds
    (fun k _ hk hf => by
      have hlt : k < x.2.2.1.length := by omega
      unfold fL at hf
      rw [List.getElem?_eq_getElem hlt, Option.bind_some] at hf
      unfold ref22_Check.t4
      dsimp only
      rw [tr_ite, decide_eq_true (by omega), if_pos rfl, tr_opt, rlit_eq _ _ _ hlt hx, hf, Option.bind_some, tr_ite, if_neg (by simp [mkW]), tr_ret, W_succ (by omega)])
    (fun k w _ hk hf => by
      have hlt : k < x.2.2.1.length := by omega
      have hok := fL_ok hf
      unfold fL at hf
      rw [List.getElem?_eq_getElem hlt, Option.bind_some] at hf
      unfold ref22_Check.t4
      dsimp only
      rw [tr_ite, decide_eq_true (by omega), if_pos rfl, tr_opt, rlit_eq _ _ _ hlt hx, hf, Option.bind_some, tr_ite, if_pos (hok.go)]; rfl)
    (by
      rw [Nat.zero_add]
      unfold ref22_Check.t4
      dsimp only
      rw [tr_ite, decide_eq_false (by omega), if_neg (by simp), tr_ret]) (rounds_gt (by omega))

theorem RCheck_eq (x : ScT) (h : lightB x) : ref22_Check x = some (mkW (wr x)) := by
  obtain ⟨h1, h2, h3, h4⟩ := h
  unfold ref22_Check ref22_Check.t wr
  rw [tr_ite, tr_ret]
  have hbb : (decide ((x.1.length : Int) > 32) || decide ((x.2.1.length : Int) > 512) || decide ((x.2.2.1.length : Int) > 512) || decide (x.2.2.2.1 > 16)) = bigB x := rfl
  rw [hbb]
  by_cases hbig : bigB x = true
  · rw [if_pos hbig, if_pos hbig]; rfl
  rw [if_neg hbig, if_neg hbig, tr_opt, rmats x h1, Option.bind_some]
  unfold wM
  cases e1 : firstF (fM x) 0 x.1.length with
  | some p => rfl
  | none =>
    dsimp only
    rw [tr_ite, if_pos (by rfl), tr_opt, rtris x h2, Option.bind_some]
    unfold wT
    cases e2 : firstF (fT x) 0 x.2.1.length with
    | some p => rfl
    | none =>
      dsimp only
      rw [tr_ite, if_pos (by rfl), tr_opt, rlits x h3, Option.bind_some]
      unfold wL
      cases e3 : firstF (fL x) 0 x.2.2.1.length with
      | some p => rfl
      | none =>
        dsimp only
        rw [tr_ite, if_pos (by rfl), tr_opt, rest_eq x h4, Option.bind_some, tr_ret]
        rfl

end Go.Proofs.Pen

namespace Go.Proofs.Pen
open Go Go.Proofs

/-! ### Scenes that may be -/
def matG (m : MatT) : Prop := matW m 0 = none
def triG (n : Int) (t : TriT) : Prop := 0 ≤ t.2.2.2 ∧ t.2.2.2 < n ∧ (in3 t.1 (-1048576) 1048576 && in3 t.2.1 (-1048576) 1048576 && in3 t.2.2.1 (-1048576) 1048576) = true ∧ flatB (lessW t.2.1 t.1) (lessW t.2.2.1 t.1) = false
def litG (n : Int) (l : LitT) : Prop := 0 ≤ l.1 ∧ l.1 < n ∧ in3 l.2 0 67108863 = true
def okS (x : ScT) : Prop := bigB x = false ∧ (∀ m ∈ x.1, matG m) ∧ (∀ t ∈ x.2.1, triG x.1.length t) ∧ (∀ l ∈ x.2.2.1, litG x.2.1.length l) ∧ (x.2.2.1.Pairwise fun a b => a.1 ≠ b.1) ∧
  (0 ≤ x.2.2.2.1 ∧ (x.2.2.2.2.1.length : Int) = 8 * x.2.2.2.1) ∧ (∀ c ∈ x.2.2.2.2.1, in3 c 0 67108863 = true) ∧ camW x = none

theorem firstF_none_iff {f : Nat → Option W3} {n : Nat} : (firstF f 0 n).map (·.2) = none ↔ ∀ i, i < n → f i = none := by
  constructor
  · intro h i hi
    have h : firstF f 0 n = none := by simpa using h
    exact firstF_none h i (Nat.zero_le _) (by omega)
  · intro h
    cases hf : firstF f 0 n with
    | none => rfl
    | some p =>
      obtain ⟨i, w⟩ := p
      obtain ⟨_, h2, h3⟩ := firstF_some hf
      rw [h i (by omega)] at h3
      cases h3

theorem matW_none {m : MatT} {p : Int} : matW m p = none ↔ matG m := by
  unfold matG matW
  split
  · simp
  · split <;> simp

theorem triW_none {n : Int} {t : TriT} {p : Int} : triW n t p = none ↔ triG n t := by
  unfold triG triW
  by_cases h : 0 ≤ t.2.2.2 ∧ t.2.2.2 < n
  · rw [if_neg (by simp; omega)]
    generalize (in3 t.1 (-1048576) 1048576 && in3 t.2.1 (-1048576) 1048576 && in3 t.2.2.1 (-1048576) 1048576) = q1
    generalize flatB (lessW t.2.1 t.1) (lessW t.2.2.1 t.1) = q2
    cases q1 <;> cases q2 <;> simp [h.1, h.2]
  · rw [if_pos (by simp; omega)]
    constructor
    · intro hh; cases hh
    · rintro ⟨h1, h2, _⟩; exact absurd ⟨h1, h2⟩ h

theorem litW_none {n : Int} {a : List LitT} {t : LitT} {p : Int} : litW n a t p = none ↔ litG n t ∧ ∀ y ∈ a, y.1 ≠ t.1 := by
  unfold litG litW
  by_cases h : (decide (t.1 < 0) || decide (t.1 ≥ n) || a.any fun y => t.1 == y.1) = true
  · rw [if_pos h]
    constructor
    · intro hh; cases hh
    · rintro ⟨⟨h1, h2, _⟩, h3⟩
      simp only [Bool.or_eq_true, decide_eq_true_eq, List.any_eq_true, beq_iff_eq] at h
      rcases h with (h | h) | ⟨y, hy, h⟩
      · omega
      · omega
      · exact absurd h.symm (h3 y hy)
  · rw [if_neg h]
    simp only [Bool.or_eq_true, decide_eq_true_eq, List.any_eq_true, beq_iff_eq, not_or, not_exists, not_and] at h
    obtain ⟨⟨h1, h2⟩, h3⟩ := h
    split
    · rename_i h4
      constructor
      · intro hh; cases hh
      · rintro ⟨⟨_, _, h5⟩, _⟩; rw [h4] at h5; cases h5
    · rename_i h4
      constructor
      · intro _; exact ⟨⟨by omega, by omega, nf h4⟩, fun y hy hh => h3 y hy hh.symm⟩
      · intro _; rfl

theorem celW_none {c : W3} {p : Int} : celW c p = none ↔ in3 c 0 67108863 = true := by
  unfold celW
  split
  · rename_i h; simp [h]
  · rename_i h; simp [nf h]

theorem orElse_none {a b : Option W3} : orElse' a b = none ↔ a = none ∧ b = none := by
  cases a <;> simp [orElse']

theorem wr_none {x : ScT} : wr x = none ↔ okS x := by
  unfold wr okS
  by_cases hb : bigB x = true
  · rw [if_pos hb, hb]; simp
  rw [if_neg hb]
  have hb' : bigB x = false := by simpa using hb
  have hz : x.2.2.2.1 ≤ 16 := by
    unfold bigB at hb'
    simp only [Bool.or_eq_false_iff, decide_eq_false_iff_not] at hb'
    omega
  rw [orElse_none, orElse_none, orElse_none, orElse_none]
  unfold wM wT wL
  rw [firstF_none_iff, firstF_none_iff, firstF_none_iff]
  have eM : (∀ i, i < x.1.length → fM x i = none) ↔ ∀ m ∈ x.1, matG m := by
    constructor
    · intro h m hm
      obtain ⟨i, hi, rfl⟩ := List.getElem_of_mem hm
      have := h i hi
      unfold fM at this
      rw [List.getElem?_eq_getElem hi, Option.bind_some] at this
      exact matW_none.1 this
    · intro h i hi
      unfold fM
      rw [List.getElem?_eq_getElem hi, Option.bind_some]
      exact matW_none.2 (h _ (List.getElem_mem hi))
  have eT : (∀ i, i < x.2.1.length → fT x i = none) ↔ ∀ t ∈ x.2.1, triG x.1.length t := by
    constructor
    · intro h m hm
      obtain ⟨i, hi, rfl⟩ := List.getElem_of_mem hm
      have := h i hi
      unfold fT at this
      rw [List.getElem?_eq_getElem hi, Option.bind_some] at this
      exact triW_none.1 this
    · intro h i hi
      unfold fT
      rw [List.getElem?_eq_getElem hi, Option.bind_some]
      exact triW_none.2 (h _ (List.getElem_mem hi))
  have eL : (∀ i, i < x.2.2.1.length → fL x i = none) ↔ (∀ l ∈ x.2.2.1, litG x.2.1.length l) ∧ (x.2.2.1.Pairwise fun a b => a.1 ≠ b.1) := by
    rw [List.pairwise_iff_getElem]
    constructor
    · intro h
      have h' : ∀ i (hi : i < x.2.2.1.length), litG x.2.1.length x.2.2.1[i] ∧ ∀ y ∈ x.2.2.1.take i, y.1 ≠ x.2.2.1[i].1 := by
        intro i hi
        have := h i hi
        unfold fL at this
        rw [List.getElem?_eq_getElem hi, Option.bind_some] at this
        exact litW_none.1 this
      refine ⟨fun m hm => ?_, fun i j hi hj hij => ?_⟩
      · obtain ⟨i, hi, rfl⟩ := List.getElem_of_mem hm
        exact (h' i hi).1
      · refine (h' j hj).2 x.2.2.1[i] ?_
        rw [List.mem_take_iff_getElem]
        exact ⟨i, by omega, rfl⟩
    · rintro ⟨h1, h2⟩ i hi
      unfold fL
      rw [List.getElem?_eq_getElem hi, Option.bind_some]
      refine litW_none.2 ⟨h1 _ (List.getElem_mem hi), fun y hy => ?_⟩
      rw [List.mem_take_iff_getElem] at hy
      obtain ⟨j, hj, rfl⟩ := hy
      exact h2 j i (by omega) hi (by omega)
  have eZ : wZ x = none ↔ (0 ≤ x.2.2.2.1 ∧ (x.2.2.2.2.1.length : Int) = 8 * x.2.2.2.1) ∧ (∀ c ∈ x.2.2.2.2.1, in3 c 0 67108863 = true) := by
    unfold wZ
    by_cases h1 : x.2.2.2.1 < 0
    · rw [if_pos (decide_eq_true h1)]
      constructor
      · intro h; cases h
      · rintro ⟨⟨h, _⟩, _⟩; omega
    rw [if_neg (by simpa using h1), W_id (by omega) (by omega)]
    by_cases h2 : (x.2.2.2.2.1.length : Int) = 8 * x.2.2.2.1
    · rw [if_neg (by simpa using h2)]
      unfold wC
      rw [firstF_none_iff]
      constructor
      · intro h
        refine ⟨⟨by omega, h2⟩, fun m hm => ?_⟩
        obtain ⟨i, hi, rfl⟩ := List.getElem_of_mem hm
        have := h i hi
        unfold fC at this
        rw [List.getElem?_eq_getElem hi, Option.bind_some] at this
        exact celW_none.1 this
      · rintro ⟨_, h⟩ i hi
        unfold fC
        rw [List.getElem?_eq_getElem hi, Option.bind_some]
        exact celW_none.2 (h _ (List.getElem_mem hi))
    · rw [if_pos (by simpa using h2)]
      constructor
      · intro h; cases h
      · rintro ⟨⟨_, h⟩, _⟩; exact absurd h h2
  rw [eM, eT, eL, eZ]
  simp only [hb', true_and, and_assoc]

/-! ### The same scene -/
abbrev ZS : ScT := ([], [], [], 0, [], ((0, 0, 0), (0, 0, 0), (0, 0, 0), 0, 0, 0), 0, 0)

theorem lightZ : lightB ZS := by unfold lightB; simp
theorem map_takeS {α β : Type} (f : α → β) (l : List α) {k : Nat} (h : k < l.length) : (l.take k).map f ++ [f l[k]] = (l.take (k + 1)).map f := by
  rw [List.take_succ_eq_append_getElem h, List.map_append]; rfl
theorem take_snoc {α : Type} (l : List α) (v : α) : List.take (l.length + 1) (l ++ [v]) = l ++ [v] := List.take_of_length_le (by simp)
theorem small60 {n c : Nat} (h : n ≤ 900) (hc : c ≤ 1000) : n * c ≤ most := by
  have : n * c ≤ 900 * 1000 := Nat.mul_le_mul h hc
  unfold most; omega
theorem triG_up {n m : Int} {t : TriT} (h : triG n t) (hn : n ≤ m) : triG m t := ⟨h.1, by have := h.2.1; omega, h.2.2⟩
theorem litG_up {n m : Int} {t : LitT} (h : litG n t) (hn : n ≤ m) : litG m t := ⟨h.1, by have := h.2.1; omega, h.2.2⟩
theorem cam_same {x y : ScT} (h : x.2.2.2.2.2 = y.2.2.2.2.2) : camW x = camW y := by
  unfold camW
  rw [h]
theorem bigB_false {x : ScT} : bigB x = false ↔ x.1.length ≤ 32 ∧ x.2.1.length ≤ 512 ∧ x.2.2.1.length ≤ 512 ∧ x.2.2.2.1 ≤ 16 := by
  unfold bigB
  simp only [Bool.or_eq_false_iff, decide_eq_false_iff_not]
  omega
theorem mkW_zero {o : Option W3} (h : ∀ w, o = some w → codeOK w) : ((mkW o).1 == 0 && ((mkW o).2.1 == 0 && (mkW o).2.2 == 0)) = o.isNone := by
  cases o with
  | none => rfl
  | some w => exact (h w rfl).zero
theorem lightOf {x : ScT} (h : x.1.length ≤ 40 ∧ x.2.1.length ≤ 60 ∧ x.2.2.1.length ≤ 60 ∧ x.2.2.2.2.1.length ≤ 200) : lightB x := ⟨by omega, by omega, by omega, by omega⟩
theorem part_len {α : Type} (f : α → α) (l : List α) (k : Nat) : ((l.take k).map f ++ l.drop k).length = l.length := by
  rw [List.length_append, List.length_map, List.length_take, List.length_drop]; omega
theorem part_get {α : Type} (f : α → α) (l : List α) {k : Nat} (h : k < l.length) : ((l.take k).map f ++ l.drop k)[0 + Int.toNat (k : Int)]? = some l[k] := by
  have e : ((l.take k).map f).length = k := by rw [List.length_map, List.length_take]; omega
  rw [Int.toNat_natCast, Nat.zero_add, List.getElem?_append_right (by omega), e, Nat.sub_self, List.drop_eq_getElem_cons h]
  rfl
theorem part_set {α : Type} (f : α → α) (l : List α) {k : Nat} (h : k < l.length) : ((l.take k).map f ++ l.drop k).set (0 + Int.toNat (k : Int)) (f l[k]) = (l.take (k + 1)).map f ++ l.drop (k + 1) := by
  have e : ((l.take k).map f).length = k := by rw [List.length_map, List.length_take]; omega
  rw [Int.toNat_natCast, Nat.zero_add, List.set_append_right _ _ (by omega), e, Nat.sub_self, List.drop_eq_getElem_cons h, ← map_takeS f l h, List.append_assoc]
  rfl
end Go.Proofs.Pen

namespace Go.Proofs.Pen
open Go Go.Proofs

/-! ### Shapes -/
def boxOK (s : P3) : Prop := 1 ≤ s.1 ∧ s.1 ≤ 1048576 ∧ 1 ≤ s.2.1 ∧ s.2.1 ≤ 1048576 ∧ 1 ≤ s.2.2 ∧ s.2.2 ≤ 1048576
instance (s : P3) : Decidable (boxOK s) := inferInstanceAs (Decidable (1 ≤ s.1 ∧ s.1 ≤ 1048576 ∧ 1 ≤ s.2.1 ∧ s.2.1 ≤ 1048576 ∧ 1 ≤ s.2.2 ∧ s.2.2 ≤ 1048576))
def panOK (s : P3) : Prop := 1 ≤ s.1 ∧ s.1 ≤ 1048576 ∧ 1 ≤ s.2.1 ∧ s.2.1 ≤ 1048576
instance (s : P3) : Decidable (panOK s) := inferInstanceAs (Decidable (1 ≤ s.1 ∧ s.1 ≤ 1048576 ∧ 1 ≤ s.2.1 ∧ s.2.1 ≤ 1048576))
def panM (s : P3) : Msh := ([(0, 0, 0), (s.1, 0, 0), (0, s.2.1, 0), (s.1, s.2.1, 0)], [(0, 1, 3), (0, 3, 2)])
def boxM (s : P3) : Msh := (boxP s.1 s.2.1 s.2.2, boxF)
def shapeV (k : Int) (s : P3) : Msh × Int :=
  if k = 3 then (if panOK s then (panM s, 0) else (([], []), 3))
  else if k = 2 then (if boxOK s then (((boxM s).1, (boxM s).2.map turnF), 0) else (([], []), 3))
  else if k = 1 then (if boxOK s then (boxM s, 0) else (([], []), 3)) else (([], []), 2)

theorem pan_eq (s : P3) : build_panel s = some (if panOK s then (panM s, 0) else (([], []), 3)) := by
  unfold build_panel build_panel.t
  rw [tr_ite, tr_ret, tr_ret]
  by_cases h : panOK s
  · rw [if_pos h, if_neg]
    · rfl
    · unfold panOK at h
      simp only [Bool.or_eq_true, decide_eq_true_eq]
      split <;> split <;> omega
  · rw [if_neg h, if_pos]
    unfold panOK at h
    simp only [Bool.or_eq_true, decide_eq_true_eq]
    split <;> split <;> omega

theorem Box_eq' (s : P3) : mesh_Box s = some (if boxOK s then (boxM s, 0) else (([], []), 3)) := Box_eq s

theorem shape_eq (k : Int) (s : P3) : build_shape (k, s) = some (shapeV k s) := by
  unfold build_shape build_shape.t shapeV
  dsimp only
  rw [tr_ite]
  by_cases h3 : k = 3
  · rw [if_pos (by simpa using h3), if_pos h3, tr_opt, pan_eq, Option.bind_some, tr_ret]
  rw [if_neg (by simpa using h3), if_neg h3, tr_ite]
  by_cases h2 : k = 2
  · rw [if_pos (by simpa using h2), if_pos h2, tr_opt, Box_eq', Option.bind_some]
    by_cases hb : boxOK s
    · rw [if_pos hb, if_pos hb, tr_yes (by rfl), tr_opt, Turn_eq (by simp [boxM, boxF]) (by simp [boxM, boxP]), Option.bind_some, tr_ret]
    · rw [if_neg hb, if_neg hb, tr_no (by rfl), tr_ret]
  rw [if_neg (by simpa using h2), if_neg h2, tr_ite]
  by_cases h1 : k = 1
  · rw [if_pos (by simpa using h1), if_pos h1, tr_opt, Box_eq', Option.bind_some, tr_ret]
  · rw [if_neg (by simpa using h1), if_neg h1, tr_ret]

theorem pan_chk {s : P3} (h : panOK s) : chk (panM s) = 0 := by
  obtain ⟨X, Y, Z⟩ := s
  unfold panOK at h
  dsimp only at h
  have hX : X ≠ 0 := by omega
  have hY : Y ≠ 0 := by omega
  unfold chk panM
  dsimp only
  rw [if_neg (by simp)]
  rw [if_pos (List.all_eq_true.2 fun p hp => by
    simp only [List.mem_cons, List.not_mem_nil, or_false] at hp
    unfold bdB bd
    refine decide_eq_true ?_
    rcases hp with rfl | rfl | rfl | rfl <;> dsimp only <;> omega)]
  rw [if_pos (show ([(0, 1, 3), (0, 3, 2)] : List P3).all (plB (([(0, 0, 0), (X, 0, 0), (0, Y, 0), (X, Y, 0)] : List P3).length : Int)) = true from by show (List.all _ (plB 4)) = true; decide)]
  rw [if_pos]
  have p1 := Int.mul_ne_zero hX hY
  have p2 := Int.mul_ne_zero hY hX
  simp [flB, fl, fl3, gp, hX, hY]

theorem shape_chk {k : Int} {s : P3} (h : (shapeV k s).2 = 0) : chk (shapeV k s).1 = 0 := by
  unfold shapeV at h ⊢
  split
  · rename_i h3
    rw [if_pos h3] at h
    split
    · rename_i hp; exact pan_chk hp
    · rename_i hp; rw [if_neg hp] at h; cases h
  · rename_i h3
    rw [if_neg h3] at h
    split
    · rename_i h2
      rw [if_pos h2] at h
      split
      · rename_i hb; exact chk_turn (box_chk hb)
      · rename_i hb; rw [if_neg hb] at h; cases h
    · rename_i h2
      rw [if_neg h2] at h
      split
      · rename_i h1
        rw [if_pos h1] at h
        split
        · rename_i hb; exact box_chk hb
        · rename_i hb; rw [if_neg hb] at h; cases h
      · rename_i h1; rw [if_neg h1] at h; cases h

/-! ### The document's shapes -/
theorem z2 (v : Int) : W (0 * v) = 0 := by rw [Int.zero_mul]; exact W_id (by omega) (by omega)
theorem RBox_eq {s : P3} (h : boxOK s) : ref47_Box s = some (boxM s) := by
  obtain ⟨X, Y, Z⟩ := s
  unfold boxOK at h
  dsimp only at h
  have o1 : ∀ v : Int, 1 ≤ v → v ≤ 1048576 → W (1 * v) = v := fun v a b => by rw [Int.one_mul]; exact W_id (by omega) (by omega)
  have oX := o1 X (by omega) (by omega)
  have oY := o1 Y (by omega) (by omega)
  have oZ := o1 Z (by omega) (by omega)
  have in4 : ∀ (l : List P3) (F : List P3) (z y : Int), l.length ≤ 100 → ref47_Box.l4 ((X, Y, Z), ([], []), (l, F, ()), z, y, 0, ()) =
      some (.exit 4, (X, Y, Z), ([], []), (l ++ [(W (0 * X), W (y * Y), W (z * Z))] ++ [(W (1 * X), W (y * Y), W (z * Z))], F, ()), z, y, 2, ()) := by
    intro l F z y hl
    have e0 : ref47_Box.l4 ((X, Y, Z), ([], []), (l, F, ()), z, y, 0, ()) = (iterT ref47_Box.t4 rounds ((X, Y, Z), ([], []), (l, F, ()), z, y, 0, ())).run := rfl
    rw [e0, show rounds = (rounds - 3) + 1 + 1 + 1 by unfold rounds; omega]
    have s0 : (ref47_Box.t4 ((X, Y, Z), ([], []), (l, F, ()), z, y, 0, ())).run = some (.normal, (X, Y, Z), ([], []), (l ++ [(W (0 * X), W (y * Y), W (z * Z))], F, ()), z, y, 1, ()) := by
      unfold ref47_Box.t4
      simp only [List.take_length]
      rw [tr_yes (by simp), tr_yes (decide_eq_true (room (by omega) (by omega))), tr_ret, List.take_of_length_le (by simp)]
      rfl
    have s1 : (ref47_Box.t4 ((X, Y, Z), ([], []), (l ++ [(W (0 * X), W (y * Y), W (z * Z))], F, ()), z, y, 1, ())).run = some (.normal, (X, Y, Z), ([], []), (l ++ [(W (0 * X), W (y * Y), W (z * Z))] ++ [(W (1 * X), W (y * Y), W (z * Z))], F, ()), z, y, 2, ()) := by
      unfold ref47_Box.t4
      simp only [List.take_length]
      rw [tr_yes (by simp), tr_yes (decide_eq_true (room (by simp; omega) (by omega))), tr_ret, List.take_of_length_le (by simp)]
      rfl
    have s2 : (ref47_Box.t4 ((X, Y, Z), ([], []), (l ++ [(W (0 * X), W (y * Y), W (z * Z))] ++ [(W (1 * X), W (y * Y), W (z * Z))], F, ()), z, y, 2, ())).run = some (.exit 4, (X, Y, Z), ([], []), (l ++ [(W (0 * X), W (y * Y), W (z * Z))] ++ [(W (1 * X), W (y * Y), W (z * Z))], F, ()), z, y, 2, ()) := by
      unfold ref47_Box.t4
      simp only [List.take_length]
      rw [tr_no (by simp), tr_ret]
    rw [iter_step s0]
    dsimp only
    rw [iter_step s1]
    dsimp only
    rw [iter_step s2]
  have in2 : ∀ (l : List P3) (F : List P3) (z : Int), l.length ≤ 90 → ref47_Box.l2 ((X, Y, Z), ([], []), (l, F, ()), z, 0, ()) =
      some (.exit 2, (X, Y, Z), ([], []), (l ++ [(W (0 * X), W (0 * Y), W (z * Z))] ++ [(W (1 * X), W (0 * Y), W (z * Z))] ++ [(W (0 * X), W (1 * Y), W (z * Z))] ++ [(W (1 * X), W (1 * Y), W (z * Z))], F, ()), z, 2, ()) := by
    intro l F z hl
    have e0 : ref47_Box.l2 ((X, Y, Z), ([], []), (l, F, ()), z, 0, ()) = (iterT ref47_Box.t2 rounds ((X, Y, Z), ([], []), (l, F, ()), z, 0, ())).run := rfl
    have st : ∀ (l : List P3) (y : Int), l.length ≤ 95 → y = 0 ∨ y = 1 → (ref47_Box.t2 ((X, Y, Z), ([], []), (l, F, ()), z, y, ())).run = some (.normal, (X, Y, Z), ([], []), (l ++ [(W (0 * X), W (y * Y), W (z * Z))] ++ [(W (1 * X), W (y * Y), W (z * Z))], F, ()), z, y + 1, ()) := by
      intro l y hl hy
      unfold ref47_Box.t2
      simp only [List.take_length]
      rw [tr_yes (by simp; omega), tr_opt, in4 l F z y (by omega), Option.bind_some]
      dsimp only
      rw [tr_yes (by rfl), tr_ret, W_id (n := y + 1) (by omega) (by omega)]
    rw [e0, show rounds = (rounds - 3) + 1 + 1 + 1 by unfold rounds; omega, iter_step (st l 0 (by omega) (.inl rfl))]
    dsimp only
    rw [show (0 : Int) + 1 = 1 from rfl, iter_step (st _ 1 (by simp; omega) (.inr rfl))]
    dsimp only
    have fin : ∀ l : List P3, (ref47_Box.t2 ((X, Y, Z), ([], []), (l, F, ()), z, 1 + 1, ())).run = some (.exit 2, (X, Y, Z), ([], []), (l, F, ()), z, 2, ()) := by
      intro l
      unfold ref47_Box.t2
      simp only [List.take_length]
      rw [tr_no (by simp), tr_ret]; rfl
    rw [iter_step (fin _)]
  have st0 : ∀ (l : List P3) (F : List P3) (z : Int), l.length ≤ 80 → z = 0 ∨ z = 1 → (ref47_Box.t0 ((X, Y, Z), ([], []), (l, F, ()), z, ())).run = some (.normal, (X, Y, Z), ([], []), (l ++ [(W (0 * X), W (0 * Y), W (z * Z))] ++ [(W (1 * X), W (0 * Y), W (z * Z))] ++ [(W (0 * X), W (1 * Y), W (z * Z))] ++ [(W (1 * X), W (1 * Y), W (z * Z))], F, ()), z + 1, ()) := by
    intro l F z hl hz
    unfold ref47_Box.t0
    simp only [List.take_length]
    rw [tr_yes (by simp; omega), tr_opt, in2 l F z (by omega), Option.bind_some]
    dsimp only
    rw [tr_yes (by rfl), tr_ret, W_id (n := z + 1) (by omega) (by omega)]
  have fin0 : ∀ (l : List P3) (F : List P3), (ref47_Box.t0 ((X, Y, Z), ([], []), (l, F, ()), 1 + 1, ())).run = some (.exit 0, (X, Y, Z), ([], []), (l, F, ()), 2, ()) := by
    intro l F
    unfold ref47_Box.t0
    simp only [List.take_length]
    rw [tr_no (by simp), tr_ret]; rfl
  unfold ref47_Box ref47_Box.t
  have e0 : ∀ y, ref47_Box.l0 y = (iterT ref47_Box.t0 rounds y).run := fun _ => rfl
  rw [tr_opt, e0, show rounds = (rounds - 3) + 1 + 1 + 1 by unfold rounds; omega, iter_step (st0 [] _ 0 (by simp) (.inl rfl))]
  dsimp only
  rw [show (0 : Int) + 1 = 1 from rfl, iter_step (st0 _ _ 1 (by simp) (.inr rfl))]
  dsimp only
  rw [iter_step (fin0 _ _), Option.bind_some]
  dsimp only
  rw [tr_yes (by rfl), tr_ret]
  simp only [List.take_length, z2, oX, oY, oZ]
  rfl
end Go.Proofs.Pen

namespace Go.Proofs.Pen
open Go Go.Proofs
noncomputable def build_Builder_Things.t (x : (((List ((Int × Int × Int) × (Int × Int × Int) × Int)) × (List ((Int × Int × Int) × (Int × Int × Int) × (Int × Int × Int) × Int)) × (List (Int × Int × Int × Int)) × Int × (List (Int × Int × Int)) × ((Int × Int × Int) × (Int × Int × Int) × (Int × Int × Int) × Int × Int × Int) × Int × Int) × List (Int) × List (Bool))) : T (Int) := T.ret (↑(List.length x.2.1) : Int)
noncomputable def build_Builder_Things.q : List AV → T AV := entry [(.ptr (.st (.pair TScn (.pair (.sl TI) (.sl .bool)))))] (outR [TI]) build_Builder_Things.t
theorem build_Builder_Things.ok : FnOK Tryz.prog 7 build_Builder_Things.q :=
  entry_in (ps := [(.ptr (.st (.pair TScn (.pair (.sl TI) (.sl .bool)))))]) (rs := [TI]) (F := ({ quiet := Xs, deep := noDeep } : Fns)) (D := D0) (S := tabS []) (t := build_Builder_Things.t) mixed Xok (deep_none _) Tryz.func7 (by kernel_rfl) (sok_fn trivial) (by kernel_rfl) (fun x => by kernel_rfl)
end Go.Proofs.Pen

namespace Go.Proofs.Pen
open Go Go.Proofs
noncomputable def build_Builder_Tris.t (x : (((List ((Int × Int × Int) × (Int × Int × Int) × Int)) × (List ((Int × Int × Int) × (Int × Int × Int) × (Int × Int × Int) × Int)) × (List (Int × Int × Int × Int)) × Int × (List (Int × Int × Int)) × ((Int × Int × Int) × (Int × Int × Int) × (Int × Int × Int) × Int × Int × Int) × Int × Int) × List (Int) × List (Bool)) × Int) : T (Int × Int) := T.ite (decide (x.2 < (0 : Int))) (T.ret ((0 : Int), (0 : Int))) (T.ite (decide (x.2 ≥ (↑x.1.2.1.length : Int))) (T.ret ((0 : Int), (0 : Int))) (T.ite (x.2 == (0 : Int)) (T.opt (lget x.1.2.1 (0 : Int)) fun y => T.ret ((0 : Int), y)) (T.opt (lget x.1.2.1 (W (x.2 - (1 : Int)))) fun y => T.opt (lget x.1.2.1 x.2) fun y_1 => T.ret (y, y_1))))
noncomputable def build_Builder_Tris (x : (((List ((Int × Int × Int) × (Int × Int × Int) × Int)) × (List ((Int × Int × Int) × (Int × Int × Int) × (Int × Int × Int) × Int)) × (List (Int × Int × Int × Int)) × Int × (List (Int × Int × Int)) × ((Int × Int × Int) × (Int × Int × Int) × (Int × Int × Int) × Int × Int × Int) × Int × Int) × List (Int) × List (Bool)) × Int) : Option (Int × Int) := (build_Builder_Tris.t x).run
noncomputable def build_Builder_Tris.q : List AV → T AV := entry [(.ptr (.st (.pair TScn (.pair (.sl TI) (.sl .bool))))), TI] (outR [TI, TI]) fun x => .opt (build_Builder_Tris x) .ret
theorem build_Builder_Tris.ok : FnOK Tryz.prog 8 build_Builder_Tris.q :=
  entry_call (ps := [(.ptr (.st (.pair TScn (.pair (.sl TI) (.sl .bool))))), TI]) (rs := [TI, TI]) (F := ({ quiet := (ext Xs 7 build_Builder_Things.q), deep := noDeep } : Fns)) (D := D0) (S := tabS []) (t := build_Builder_Tris.t) mixed (quiet_ext Xok build_Builder_Things.ok) (deep_none _) Tryz.func8 (by kernel_rfl) (sok_fn trivial) (by kernel_rfl) (fun x => by kernel_rfl)
end Go.Proofs.Pen

namespace Go.Proofs.Pen
open Go Go.Proofs
noncomputable def eachShine.deeps : Deeps := { D := [40], C := [], frz := false, S := fun _ _ => noS }
theorem eachShine.deepsOk : LoopsOK Tryz.prog eachShine.deeps.S := (loops_none _)
def eachShine.L0 : List (Nat × Lay) := [(9000, .oblk 0 [.own TMatD, .own TTriD, .own TLitD, .dat TI, .own TP, .dat TCam, .dat TI, .dat TI, .own TI, .own .bool]), (9001, .bdead 1), (9002, .bdead 2), (9003, .bdead 3), (9004, .bdead 4), (9005, .bdead 5), (9006, .bdead 6), (9007, .bdead 7), (9008, .bdead 8), (9009, .bdead 9), (9010, .bdead 10), (9011, .bdead 11), (9012, .oblk 12 [.pt 0]), (9013, .blk 13 TP), (2, .clo 40 [12, 13]), (7, .val TI), (8, .val TI)]
noncomputable def eachShine.t0 (x : (List ((Int × Int × Int) × (Int × Int × Int) × Int) × List ((Int × Int × Int) × (Int × Int × Int) × (Int × Int × Int) × Int) × List (Int × Int × Int × Int) × Int × List (Int × Int × Int) × ((Int × Int × Int) × (Int × Int × Int) × (Int × Int × Int) × Int × Int × Int) × Int × Int × List Int × List Bool × Unit) × (Unit) × (Int × Int × Int) × Int × Int × Unit) : T (Ex × (List ((Int × Int × Int) × (Int × Int × Int) × Int) × List ((Int × Int × Int) × (Int × Int × Int) × (Int × Int × Int) × Int) × List (Int × Int × Int × Int) × Int × List (Int × Int × Int) × ((Int × Int × Int) × (Int × Int × Int) × (Int × Int × Int) × Int × Int × Int) × Int × Int × List Int × List Bool × Unit) × (Unit) × (Int × Int × Int) × Int × Int × Unit) := T.ite (decide (x.2.2.2.2.1 < x.2.2.2.1)) (T.ite (decide ((x.1.2.2.1.length + (1 : Nat)) * nat_lit 32 ≤ most)) (T.ret (Ex.normal, (List.take x.1.1.length x.1.1, List.take x.1.2.1.length x.1.2.1, List.take (x.1.2.2.1.length + (1 : Nat)) (List.take x.1.2.2.1.length x.1.2.2.1 ++ [(x.2.2.2.2.1, x.2.2.1)]), x.1.2.2.2.1, List.take x.1.2.2.2.2.1.length x.1.2.2.2.2.1, x.1.2.2.2.2.2.1, x.1.2.2.2.2.2.2.1, x.1.2.2.2.2.2.2.2.1, List.take x.1.2.2.2.2.2.2.2.2.1.length x.1.2.2.2.2.2.2.2.2.1, List.take x.1.2.2.2.2.2.2.2.2.2.1.length x.1.2.2.2.2.2.2.2.2.2.1, ()), (), x.2.2.1, x.2.2.2.1, W (x.2.2.2.2.1 + (1 : Int)), ())) T.fail) (T.ret (Ex.exit (0 : Nat), (List.take x.1.1.length x.1.1, List.take x.1.2.1.length x.1.2.1, List.take x.1.2.2.1.length x.1.2.2.1, x.1.2.2.2.1, List.take x.1.2.2.2.2.1.length x.1.2.2.2.2.1, x.1.2.2.2.2.2.1, x.1.2.2.2.2.2.2.1, x.1.2.2.2.2.2.2.2.1, List.take x.1.2.2.2.2.2.2.2.2.1.length x.1.2.2.2.2.2.2.2.2.1, List.take x.1.2.2.2.2.2.2.2.2.2.1.length x.1.2.2.2.2.2.2.2.2.2.1, ()), (), x.2.2.1, x.2.2.2.1, x.2.2.2.2.1, ()))
noncomputable def eachShine.l0 (x : (List ((Int × Int × Int) × (Int × Int × Int) × Int) × List ((Int × Int × Int) × (Int × Int × Int) × (Int × Int × Int) × Int) × List (Int × Int × Int × Int) × Int × List (Int × Int × Int) × ((Int × Int × Int) × (Int × Int × Int) × (Int × Int × Int) × Int × Int × Int) × Int × Int × List Int × List Bool × Unit) × (Unit) × (Int × Int × Int) × Int × Int × Unit) : Option (Ex × (List ((Int × Int × Int) × (Int × Int × Int) × Int) × List ((Int × Int × Int) × (Int × Int × Int) × (Int × Int × Int) × Int) × List (Int × Int × Int × Int) × Int × List (Int × Int × Int) × ((Int × Int × Int) × (Int × Int × Int) × (Int × Int × Int) × Int × Int × Int) × Int × Int × List Int × List Bool × Unit) × (Unit) × (Int × Int × Int) × Int × Int × Unit) := (iterT eachShine.t0 rounds x).run
theorem eachShine.k0 : bodies 0 (lp Tryz.f39 []) = [.loop (loopIn 0 (lp Tryz.f39 []))] ∧ WP Tryz.prog 14 (.block 0 (.loop (loopIn 0 (lp Tryz.f39 [])))) (loopS eachShine.L0 24 0 [.exit 0] eachShine.l0) :=
  loop_treeN 14 (L := eachShine.L0) (F := (dp Tryz.prog (ext Xs 8 build_Builder_Tris.q) eachShine.deeps 100 8)) (D := (inL eachShine.deeps.D)) (tab := []) (t := eachShine.t0) mixed (dp_ok mixed (quiet_ext Xok build_Builder_Tris.ok) eachShine.deepsOk 100 8).1 (dp_ok mixed (quiet_ext Xok build_Builder_Tris.ok) eachShine.deepsOk 100 8).2 (fun _ => rfl) (by kernel_rfl) (by kernel_rfl) trivial (fun x => by kernel_rfl)
noncomputable def eachShine.S : List (Nat × (St → T (Ex × St))) := [(0, loopS eachShine.L0 24 0 [.exit 0] eachShine.l0)]
theorem eachShine.tab : TabOK Tryz.prog 14 (codeOf Tryz.f39) eachShine.S := ⟨eachShine.k0, trivial⟩
end Go.Proofs.Pen

namespace Go.Proofs.Pen
open Go Go.Proofs
set_option maxRecDepth 100000
noncomputable def law47_awake.t (_ : Unit) : T (Bool) := T.ret true
noncomputable def law47_awake.q : List AV → T AV := entry [] (outR [.bool]) fun _ => .ret (true : dens [.bool])
theorem law47_awake.ok : FnOK Tryz.prog 5 law47_awake.q := peT_entry mixed (quiet_ext (quiet_ext (quiet_ext (quiet_ext Xok scene_Check.ok) build_shape.ok) xform_Mesh.ok) mesh_Tris.ok) [23, 35, 36, 37] tbOk 100 20 Tryz.func5 (by kernel_rfl) (by kernel_rfl)
end Go.Proofs.Pen

namespace Go.Proofs.Pen
open Go Go.Proofs
noncomputable def law47_Made_first.t (x : (((List ((Int × Int × Int) × (Int × Int × Int) × Int)) × (List ((Int × Int × Int) × (Int × Int × Int) × (Int × Int × Int) × Int)) × (List (Int × Int × Int × Int)) × Int × (List (Int × Int × Int)) × ((Int × Int × Int) × (Int × Int × Int) × (Int × Int × Int) × Int × Int × Int) × Int × Int) × List (Int) × List (Bool)) × Int) : T (Int) := T.ite (x.2 == (0 : Int)) (T.ret (0 : Int)) (T.opt (lget x.1.2.1 (W (x.2 - (1 : Int)))) fun y => T.ret y)
noncomputable def law47_Made_first (x : (((List ((Int × Int × Int) × (Int × Int × Int) × Int)) × (List ((Int × Int × Int) × (Int × Int × Int) × (Int × Int × Int) × Int)) × (List (Int × Int × Int × Int)) × Int × (List (Int × Int × Int)) × ((Int × Int × Int) × (Int × Int × Int) × (Int × Int × Int) × Int × Int × Int) × Int × Int) × List (Int) × List (Bool)) × Int) : Option (Int) := (law47_Made_first.t x).run
noncomputable def law47_Made_first.q : List AV → T AV := entry [TMade, TI] (outR [TI]) fun x => .opt (law47_Made_first x) .ret
theorem law47_Made_first.ok : FnOK Tryz.prog 9 law47_Made_first.q :=
  entry_call (ps := [TMade, TI]) (rs := [TI]) (F := ({ quiet := Xs, deep := noDeep } : Fns)) (D := D0) (S := tabS []) (t := law47_Made_first.t) mixed Xok (deep_none _) Tryz.func9 (by kernel_rfl) (sok_fn trivial) (by kernel_rfl) (fun x => by kernel_rfl)
end Go.Proofs.Pen

namespace Go.Proofs.Pen
open Go Go.Proofs
noncomputable def fault_Fault_Unwrap.t (x : (Int × Int × ErrD)) : T (ErrD) := T.ret x.2.2
noncomputable def fault_Fault_Unwrap.q : List AV → T AV := entry [TF] (outR [TE]) fault_Fault_Unwrap.t
theorem fault_Fault_Unwrap.ok : FnOK Tryz.prog 113 fault_Fault_Unwrap.q :=
  entry_in (ps := [TF]) (rs := [TE]) (F := ({ quiet := Xs, deep := noDeep } : Fns)) (D := D0) (S := tabS []) (t := fault_Fault_Unwrap.t) mixed Xok (deep_none _) Tryz.func113 (by kernel_rfl) (sok_fn trivial) (by kernel_rfl) (fun x => by kernel_rfl)
end Go.Proofs.Pen

namespace Go.Proofs.Pen
open Go Go.Proofs
noncomputable def fault_Fault_Is.t (x : (Int × Int × ErrD) × Int) : T (Bool) := T.ret (x.2 == x.1.1)
noncomputable def fault_Fault_Is.q : List AV → T AV := entry [TF, (.ifi 56 .i64)] (outR [.bool]) fault_Fault_Is.t
theorem fault_Fault_Is.ok : FnOK Tryz.prog 112 fault_Fault_Is.q :=
  entry_in (ps := [TF, (.ifi 56 .i64)]) (rs := [.bool]) (F := ({ quiet := Xs, deep := noDeep } : Fns)) (D := D0) (S := tabS []) (t := fault_Fault_Is.t) mixed Xok (deep_none _) Tryz.func112 (by kernel_rfl) (sok_fn trivial) (by kernel_rfl) (fun x => by kernel_rfl)
end Go.Proofs.Pen

namespace Go.Proofs.Pen
open Go Go.Proofs
def errors_is.L3 : List (Nat × Lay) := [(1, .val (.ifi 56 .i64)), (2, .val .bool), (6, .val .bool), (43, .val .bool), (44, .val TI), (45, .val TI)]
noncomputable def errors_is.t3 (x : Int × Bool × Bool × Bool × Int × Int × Unit) : T (Ex × Int × Bool × Bool × Bool × Int × Int × Unit) := T.ite (decide (x.2.2.2.2.2.1 < x.2.2.2.2.1)) T.fail (T.ret (Ex.exit (3 : Nat), x.1, x.2.1, x.2.2.1, x.2.2.2.1, x.2.2.2.2.1, x.2.2.2.2.2.1, ()))
noncomputable def errors_is.l3 (x : Int × Bool × Bool × Bool × Int × Int × Unit) : Option (Ex × Int × Bool × Bool × Bool × Int × Int × Unit) := (iterT errors_is.t3 rounds x).run
theorem errors_is.k3 : bodies 3 (lp Tryz.f56 [0]) = [.loop (loopIn 3 (lp Tryz.f56 [0]))] ∧ WP Tryz.prog 0 (.block 3 (.loop (loopIn 3 (lp Tryz.f56 [0])))) (loopS errors_is.L3 54 3 [.exit 3, .ret] errors_is.l3) :=
  loop_tree (L := errors_is.L3) (F := ({ quiet := (ext (ext Xs 113 fault_Fault_Unwrap.q) 112 fault_Fault_Is.q), deep := noDeep } : Fns)) (D := D0) (tab := []) (t := errors_is.t3) mixed (quiet_ext (quiet_ext Xok fault_Fault_Unwrap.ok) fault_Fault_Is.ok) (deep_none _) (fun _ => rfl) (by kernel_rfl) (by kernel_rfl) trivial (fun x => by kernel_rfl)
def errors_is.L0 : List (Nat × Lay) := [(0, .val TE), (1, .val (.ifi 56 .i64)), (2, .val .bool), (6, .val .bool)]
noncomputable def errors_is.t0 (x : ErrD × Int × Bool × Bool × Unit) : T (Ex × ErrD × Int × Bool × Bool × Unit) := T.ite (x.2.2.1 && ErrD.isThe x.2.1 x.1) (T.ret (Ex.ret, x.1, x.2.1, x.2.2.1, true, ())) (T.ite (ErrD.isFault x.1) (T.ite (ErrD.onlyF x.1).isFault (T.ite (x.2.1 == (ErrD.onlyF x.1).faultC) (T.ret (Ex.ret, x.1, x.2.1, x.2.2.1, true, ())) (T.ite (ErrD.isFault x.1) (T.ite (ErrD.onlyF x.1).isFault (T.ite (ErrD.onlyF x.1).faultE.isNil (T.ret (Ex.ret, (ErrD.onlyF x.1).faultE, x.2.1, x.2.2.1, false, ())) (T.ret (Ex.normal, (ErrD.onlyF x.1).faultE, x.2.1, x.2.2.1, x.2.2.2.1, ()))) (T.ite (ErrD.onlyF x.1).isCode T.fail T.fail)) (T.ret (Ex.ret, x.1, x.2.1, x.2.2.1, false, ())))) (T.ite (ErrD.onlyF x.1).isCode T.fail T.fail)) (T.ite (ErrD.isFault x.1) (T.ite (ErrD.onlyF x.1).isFault (T.ite (ErrD.onlyF x.1).faultE.isNil (T.ret (Ex.ret, (ErrD.onlyF x.1).faultE, x.2.1, x.2.2.1, false, ())) (T.ret (Ex.normal, (ErrD.onlyF x.1).faultE, x.2.1, x.2.2.1, x.2.2.2.1, ()))) (T.ite (ErrD.onlyF x.1).isCode T.fail T.fail)) (T.ret (Ex.ret, x.1, x.2.1, x.2.2.1, false, ()))))
noncomputable def errors_is.l0 (x : ErrD × Int × Bool × Bool × Unit) : Option (Ex × ErrD × Int × Bool × Bool × Unit) := (iterT errors_is.t0 rounds x).run
theorem errors_is.k0 : bodies 0 (lp Tryz.f56 []) = [.loop (loopIn 0 (lp Tryz.f56 []))] ∧ WP Tryz.prog 0 (.block 0 (.loop (loopIn 0 (lp Tryz.f56 [])))) (loopS errors_is.L0 54 0 [.ret] errors_is.l0) :=
  loop_tree (L := errors_is.L0) (F := ({ quiet := (ext (ext Xs 113 fault_Fault_Unwrap.q) 112 fault_Fault_Is.q), deep := noDeep } : Fns)) (D := D0) (tab := [(3, loopS errors_is.L3 54 3 [.exit 3, .ret] errors_is.l3)]) (t := errors_is.t0) mixed (quiet_ext (quiet_ext Xok fault_Fault_Unwrap.ok) fault_Fault_Is.ok) (deep_none _) (fun _ => rfl) (by kernel_rfl) (by kernel_rfl) ⟨errors_is.k3, trivial⟩ (fun x => by kernel_rfl)
noncomputable def errors_is.t (x : ErrD × Int × Bool) : T (Bool) := T.opt (errors_is.l0 (x.1, x.2.1, x.2.2, false, ())) fun y => T.ite (exEq y.1 Ex.ret) (T.ret y.2.2.2.2.1) T.fail
noncomputable def errors_is (x : ErrD × Int × Bool) : Option (Bool) := (errors_is.t x).run
noncomputable def errors_is.q : List AV → T AV := entry [TE, (.ifi 56 .i64), .bool] (outR [.bool]) fun x => .opt (errors_is x) .ret
theorem errors_is.ok : FnOK Tryz.prog 56 errors_is.q :=
  entry_call (ps := [TE, (.ifi 56 .i64), .bool]) (rs := [.bool]) (F := ({ quiet := (ext (ext Xs 113 fault_Fault_Unwrap.q) 112 fault_Fault_Is.q), deep := noDeep } : Fns)) (D := D0) (S := tabS [(0, loopS errors_is.L0 54 0 [.ret] errors_is.l0)]) (t := errors_is.t) mixed (quiet_ext (quiet_ext Xok fault_Fault_Unwrap.ok) fault_Fault_Is.ok) (deep_none _) Tryz.func56 (by kernel_rfl) (sok_fn ⟨errors_is.k0, trivial⟩) (by kernel_rfl) (fun x => by kernel_rfl)
end Go.Proofs.Pen

namespace Go.Proofs.Pen
open Go Go.Proofs
noncomputable def errors_Is.t (x : ErrD × Int) : T (Bool) := T.ite (ErrD.isNil x.1) (T.ret (ErrD.isThe x.2 x.1)) (T.opt (errors_is (x.1, x.2, true)) fun y => T.ret y)
noncomputable def errors_Is (x : ErrD × Int) : Option (Bool) := (errors_Is.t x).run
noncomputable def errors_Is.q : List AV → T AV := entry [TE, (.ifi 56 .i64)] (outR [.bool]) fun x => .opt (errors_Is x) .ret
theorem errors_Is.ok : FnOK Tryz.prog 34 errors_Is.q :=
  entry_call (ps := [TE, (.ifi 56 .i64)]) (rs := [.bool]) (F := ({ quiet := (ext Xs 56 errors_is.q), deep := noDeep } : Fns)) (D := D0) (S := tabS []) (t := errors_Is.t) mixed (quiet_ext Xok errors_is.ok) (deep_none _) Tryz.func34 (by kernel_rfl) (sok_fn trivial) (by kernel_rfl) (fun x => by kernel_rfl)
end Go.Proofs.Pen

namespace Go.Proofs.Pen
open Go Go.Proofs
noncomputable def fault_Is.t (x : ErrD × Int) : T (Bool) := T.ite (!ErrD.isNil x.1) (T.opt (errors_Is x) fun y => T.ret y) (T.ret false)
noncomputable def fault_Is (x : ErrD × Int) : Option (Bool) := (fault_Is.t x).run
noncomputable def fault_Is.q : List AV → T AV := entry [TE, TI] (outR [.bool]) fun x => .opt (fault_Is x) .ret
theorem fault_Is.ok : FnOK Tryz.prog 13 fault_Is.q :=
  entry_call (ps := [TE, TI]) (rs := [.bool]) (F := ({ quiet := (ext Xs 34 errors_Is.q), deep := noDeep } : Fns)) (D := D0) (S := tabS []) (t := fault_Is.t) mixed (quiet_ext Xok errors_Is.ok) (deep_none _) Tryz.func13 (by kernel_rfl) (sok_fn trivial) (by kernel_rfl) (fun x => by kernel_rfl)
end Go.Proofs.Pen

namespace Go.Proofs.Pen
open Go Go.Proofs
def ref22_Same.L0 : List (Nat × Lay) := [(2, .box TScn), (3, .box TScn), (4, .val .bool), (5, .val TI)]
noncomputable def ref22_Same.t0 (x : ((List ((Int × Int × Int) × (Int × Int × Int) × Int)) × (List ((Int × Int × Int) × (Int × Int × Int) × (Int × Int × Int) × Int)) × (List (Int × Int × Int × Int)) × Int × (List (Int × Int × Int)) × ((Int × Int × Int) × (Int × Int × Int) × (Int × Int × Int) × Int × Int × Int) × Int × Int) × ((List ((Int × Int × Int) × (Int × Int × Int) × Int)) × (List ((Int × Int × Int) × (Int × Int × Int) × (Int × Int × Int) × Int)) × (List (Int × Int × Int × Int)) × Int × (List (Int × Int × Int)) × ((Int × Int × Int) × (Int × Int × Int) × (Int × Int × Int) × Int × Int × Int) × Int × Int) × Bool × Int × Unit) : T (Ex × ((List ((Int × Int × Int) × (Int × Int × Int) × Int)) × (List ((Int × Int × Int) × (Int × Int × Int) × (Int × Int × Int) × Int)) × (List (Int × Int × Int × Int)) × Int × (List (Int × Int × Int)) × ((Int × Int × Int) × (Int × Int × Int) × (Int × Int × Int) × Int × Int × Int) × Int × Int) × ((List ((Int × Int × Int) × (Int × Int × Int) × Int)) × (List ((Int × Int × Int) × (Int × Int × Int) × (Int × Int × Int) × Int)) × (List (Int × Int × Int × Int)) × Int × (List (Int × Int × Int)) × ((Int × Int × Int) × (Int × Int × Int) × (Int × Int × Int) × Int × Int × Int) × Int × Int) × Bool × Int × Unit) := T.ite (decide (x.2.2.2.1 < (↑(List.length x.1.1) : Int))) (T.opt (lget x.1.1 x.2.2.2.1) fun y => T.opt (lget x.2.1.1 x.2.2.2.1) fun y_1 => T.ite (!(y.1.1 == y_1.fst.fst && (y.1.2.1 == y_1.fst.snd.fst && y.1.2.2 == y_1.fst.snd.snd) && (y.2.1.1 == y_1.snd.fst.fst && (y.2.1.2.1 == y_1.snd.fst.snd.fst && y.2.1.2.2 == y_1.snd.fst.snd.snd) && y.2.2 == y_1.snd.snd))) (T.ret (Ex.ret, x.1, x.2.1, false, x.2.2.2.1, ())) (T.ret (Ex.normal, x.1, x.2.1, x.2.2.1, W (x.2.2.2.1 + (1 : Int)), ()))) (T.ret (Ex.exit (0 : Nat), x.1, x.2.1, x.2.2.1, x.2.2.2.1, ()))
noncomputable def ref22_Same.l0 (x : ((List ((Int × Int × Int) × (Int × Int × Int) × Int)) × (List ((Int × Int × Int) × (Int × Int × Int) × (Int × Int × Int) × Int)) × (List (Int × Int × Int × Int)) × Int × (List (Int × Int × Int)) × ((Int × Int × Int) × (Int × Int × Int) × (Int × Int × Int) × Int × Int × Int) × Int × Int) × ((List ((Int × Int × Int) × (Int × Int × Int) × Int)) × (List ((Int × Int × Int) × (Int × Int × Int) × (Int × Int × Int) × Int)) × (List (Int × Int × Int × Int)) × Int × (List (Int × Int × Int)) × ((Int × Int × Int) × (Int × Int × Int) × (Int × Int × Int) × Int × Int × Int) × Int × Int) × Bool × Int × Unit) : Option (Ex × ((List ((Int × Int × Int) × (Int × Int × Int) × Int)) × (List ((Int × Int × Int) × (Int × Int × Int) × (Int × Int × Int) × Int)) × (List (Int × Int × Int × Int)) × Int × (List (Int × Int × Int)) × ((Int × Int × Int) × (Int × Int × Int) × (Int × Int × Int) × Int × Int × Int) × Int × Int) × ((List ((Int × Int × Int) × (Int × Int × Int) × Int)) × (List ((Int × Int × Int) × (Int × Int × Int) × (Int × Int × Int) × Int)) × (List (Int × Int × Int × Int)) × Int × (List (Int × Int × Int)) × ((Int × Int × Int) × (Int × Int × Int) × (Int × Int × Int) × Int × Int × Int) × Int × Int) × Bool × Int × Unit) := (iterT ref22_Same.t0 rounds x).run
theorem ref22_Same.k0 : bodies 0 (lp Tryz.f14 []) = [.loop (loopIn 0 (lp Tryz.f14 []))] ∧ WP Tryz.prog 0 (.block 0 (.loop (loopIn 0 (lp Tryz.f14 [])))) (loopS ref22_Same.L0 143 0 [.exit 0, .ret] ref22_Same.l0) :=
  loop_tree (L := ref22_Same.L0) (F := ({ quiet := Xs, deep := noDeep } : Fns)) (D := D0) (tab := []) (t := ref22_Same.t0) mixed Xok (deep_none _) (fun _ => rfl) (by kernel_rfl) (by kernel_rfl) trivial (fun x => by kernel_rfl)
def ref22_Same.L2 : List (Nat × Lay) := [(2, .box TScn), (3, .box TScn), (4, .val .bool), (6, .val TI)]
noncomputable def ref22_Same.t2 (x : ((List ((Int × Int × Int) × (Int × Int × Int) × Int)) × (List ((Int × Int × Int) × (Int × Int × Int) × (Int × Int × Int) × Int)) × (List (Int × Int × Int × Int)) × Int × (List (Int × Int × Int)) × ((Int × Int × Int) × (Int × Int × Int) × (Int × Int × Int) × Int × Int × Int) × Int × Int) × ((List ((Int × Int × Int) × (Int × Int × Int) × Int)) × (List ((Int × Int × Int) × (Int × Int × Int) × (Int × Int × Int) × Int)) × (List (Int × Int × Int × Int)) × Int × (List (Int × Int × Int)) × ((Int × Int × Int) × (Int × Int × Int) × (Int × Int × Int) × Int × Int × Int) × Int × Int) × Bool × Int × Unit) : T (Ex × ((List ((Int × Int × Int) × (Int × Int × Int) × Int)) × (List ((Int × Int × Int) × (Int × Int × Int) × (Int × Int × Int) × Int)) × (List (Int × Int × Int × Int)) × Int × (List (Int × Int × Int)) × ((Int × Int × Int) × (Int × Int × Int) × (Int × Int × Int) × Int × Int × Int) × Int × Int) × ((List ((Int × Int × Int) × (Int × Int × Int) × Int)) × (List ((Int × Int × Int) × (Int × Int × Int) × (Int × Int × Int) × Int)) × (List (Int × Int × Int × Int)) × Int × (List (Int × Int × Int)) × ((Int × Int × Int) × (Int × Int × Int) × (Int × Int × Int) × Int × Int × Int) × Int × Int) × Bool × Int × Unit) := T.ite (decide (x.2.2.2.1 < (↑(List.length x.1.2.1) : Int))) (T.opt (lget x.1.2.1 x.2.2.2.1) fun y => T.opt (lget x.2.1.2.1 x.2.2.2.1) fun y_1 => T.ite (!(y.1.1 == y_1.fst.fst && (y.1.2.1 == y_1.fst.snd.fst && y.1.2.2 == y_1.fst.snd.snd) && (y.2.1.1 == y_1.snd.fst.fst && (y.2.1.2.1 == y_1.snd.fst.snd.fst && y.2.1.2.2 == y_1.snd.fst.snd.snd) && (y.2.2.1.1 == y_1.snd.snd.fst.fst && (y.2.2.1.2.1 == y_1.snd.snd.fst.snd.fst && y.2.2.1.2.2 == y_1.snd.snd.fst.snd.snd) && y.2.2.2 == y_1.snd.snd.snd)))) (T.ret (Ex.ret, x.1, x.2.1, false, x.2.2.2.1, ())) (T.ret (Ex.normal, x.1, x.2.1, x.2.2.1, W (x.2.2.2.1 + (1 : Int)), ()))) (T.ret (Ex.exit (2 : Nat), x.1, x.2.1, x.2.2.1, x.2.2.2.1, ()))
noncomputable def ref22_Same.l2 (x : ((List ((Int × Int × Int) × (Int × Int × Int) × Int)) × (List ((Int × Int × Int) × (Int × Int × Int) × (Int × Int × Int) × Int)) × (List (Int × Int × Int × Int)) × Int × (List (Int × Int × Int)) × ((Int × Int × Int) × (Int × Int × Int) × (Int × Int × Int) × Int × Int × Int) × Int × Int) × ((List ((Int × Int × Int) × (Int × Int × Int) × Int)) × (List ((Int × Int × Int) × (Int × Int × Int) × (Int × Int × Int) × Int)) × (List (Int × Int × Int × Int)) × Int × (List (Int × Int × Int)) × ((Int × Int × Int) × (Int × Int × Int) × (Int × Int × Int) × Int × Int × Int) × Int × Int) × Bool × Int × Unit) : Option (Ex × ((List ((Int × Int × Int) × (Int × Int × Int) × Int)) × (List ((Int × Int × Int) × (Int × Int × Int) × (Int × Int × Int) × Int)) × (List (Int × Int × Int × Int)) × Int × (List (Int × Int × Int)) × ((Int × Int × Int) × (Int × Int × Int) × (Int × Int × Int) × Int × Int × Int) × Int × Int) × ((List ((Int × Int × Int) × (Int × Int × Int) × Int)) × (List ((Int × Int × Int) × (Int × Int × Int) × (Int × Int × Int) × Int)) × (List (Int × Int × Int × Int)) × Int × (List (Int × Int × Int)) × ((Int × Int × Int) × (Int × Int × Int) × (Int × Int × Int) × Int × Int × Int) × Int × Int) × Bool × Int × Unit) := (iterT ref22_Same.t2 rounds x).run
theorem ref22_Same.k2 : bodies 2 (lp Tryz.f14 []) = [.loop (loopIn 2 (lp Tryz.f14 []))] ∧ WP Tryz.prog 0 (.block 2 (.loop (loopIn 2 (lp Tryz.f14 [])))) (loopS ref22_Same.L2 143 2 [.exit 2, .ret] ref22_Same.l2) :=
  loop_tree (L := ref22_Same.L2) (F := ({ quiet := Xs, deep := noDeep } : Fns)) (D := D0) (tab := []) (t := ref22_Same.t2) mixed Xok (deep_none _) (fun _ => rfl) (by kernel_rfl) (by kernel_rfl) trivial (fun x => by kernel_rfl)
def ref22_Same.L4 : List (Nat × Lay) := [(2, .box TScn), (3, .box TScn), (4, .val .bool), (7, .val TI)]
noncomputable def ref22_Same.t4 (x : ((List ((Int × Int × Int) × (Int × Int × Int) × Int)) × (List ((Int × Int × Int) × (Int × Int × Int) × (Int × Int × Int) × Int)) × (List (Int × Int × Int × Int)) × Int × (List (Int × Int × Int)) × ((Int × Int × Int) × (Int × Int × Int) × (Int × Int × Int) × Int × Int × Int) × Int × Int) × ((List ((Int × Int × Int) × (Int × Int × Int) × Int)) × (List ((Int × Int × Int) × (Int × Int × Int) × (Int × Int × Int) × Int)) × (List (Int × Int × Int × Int)) × Int × (List (Int × Int × Int)) × ((Int × Int × Int) × (Int × Int × Int) × (Int × Int × Int) × Int × Int × Int) × Int × Int) × Bool × Int × Unit) : T (Ex × ((List ((Int × Int × Int) × (Int × Int × Int) × Int)) × (List ((Int × Int × Int) × (Int × Int × Int) × (Int × Int × Int) × Int)) × (List (Int × Int × Int × Int)) × Int × (List (Int × Int × Int)) × ((Int × Int × Int) × (Int × Int × Int) × (Int × Int × Int) × Int × Int × Int) × Int × Int) × ((List ((Int × Int × Int) × (Int × Int × Int) × Int)) × (List ((Int × Int × Int) × (Int × Int × Int) × (Int × Int × Int) × Int)) × (List (Int × Int × Int × Int)) × Int × (List (Int × Int × Int)) × ((Int × Int × Int) × (Int × Int × Int) × (Int × Int × Int) × Int × Int × Int) × Int × Int) × Bool × Int × Unit) := T.ite (decide (x.2.2.2.1 < (↑(List.length x.1.2.2.1) : Int))) (T.opt (lget x.1.2.2.1 x.2.2.2.1) fun y => T.opt (lget x.2.1.2.2.1 x.2.2.2.1) fun y_1 => T.ite (!(y.1 == y_1.fst && (y.2.1 == y_1.snd.fst && (y.2.2.1 == y_1.snd.snd.fst && y.2.2.2 == y_1.snd.snd.snd)))) (T.ret (Ex.ret, x.1, x.2.1, false, x.2.2.2.1, ())) (T.ret (Ex.normal, x.1, x.2.1, x.2.2.1, W (x.2.2.2.1 + (1 : Int)), ()))) (T.ret (Ex.exit (4 : Nat), x.1, x.2.1, x.2.2.1, x.2.2.2.1, ()))
noncomputable def ref22_Same.l4 (x : ((List ((Int × Int × Int) × (Int × Int × Int) × Int)) × (List ((Int × Int × Int) × (Int × Int × Int) × (Int × Int × Int) × Int)) × (List (Int × Int × Int × Int)) × Int × (List (Int × Int × Int)) × ((Int × Int × Int) × (Int × Int × Int) × (Int × Int × Int) × Int × Int × Int) × Int × Int) × ((List ((Int × Int × Int) × (Int × Int × Int) × Int)) × (List ((Int × Int × Int) × (Int × Int × Int) × (Int × Int × Int) × Int)) × (List (Int × Int × Int × Int)) × Int × (List (Int × Int × Int)) × ((Int × Int × Int) × (Int × Int × Int) × (Int × Int × Int) × Int × Int × Int) × Int × Int) × Bool × Int × Unit) : Option (Ex × ((List ((Int × Int × Int) × (Int × Int × Int) × Int)) × (List ((Int × Int × Int) × (Int × Int × Int) × (Int × Int × Int) × Int)) × (List (Int × Int × Int × Int)) × Int × (List (Int × Int × Int)) × ((Int × Int × Int) × (Int × Int × Int) × (Int × Int × Int) × Int × Int × Int) × Int × Int) × ((List ((Int × Int × Int) × (Int × Int × Int) × Int)) × (List ((Int × Int × Int) × (Int × Int × Int) × (Int × Int × Int) × Int)) × (List (Int × Int × Int × Int)) × Int × (List (Int × Int × Int)) × ((Int × Int × Int) × (Int × Int × Int) × (Int × Int × Int) × Int × Int × Int) × Int × Int) × Bool × Int × Unit) := (iterT ref22_Same.t4 rounds x).run
theorem ref22_Same.k4 : bodies 4 (lp Tryz.f14 []) = [.loop (loopIn 4 (lp Tryz.f14 []))] ∧ WP Tryz.prog 0 (.block 4 (.loop (loopIn 4 (lp Tryz.f14 [])))) (loopS ref22_Same.L4 143 4 [.exit 4, .ret] ref22_Same.l4) :=
  loop_tree (L := ref22_Same.L4) (F := ({ quiet := Xs, deep := noDeep } : Fns)) (D := D0) (tab := []) (t := ref22_Same.t4) mixed Xok (deep_none _) (fun _ => rfl) (by kernel_rfl) (by kernel_rfl) trivial (fun x => by kernel_rfl)
def ref22_Same.L6 : List (Nat × Lay) := [(2, .box TScn), (3, .box TScn), (4, .val .bool), (8, .val TI)]
noncomputable def ref22_Same.t6 (x : ((List ((Int × Int × Int) × (Int × Int × Int) × Int)) × (List ((Int × Int × Int) × (Int × Int × Int) × (Int × Int × Int) × Int)) × (List (Int × Int × Int × Int)) × Int × (List (Int × Int × Int)) × ((Int × Int × Int) × (Int × Int × Int) × (Int × Int × Int) × Int × Int × Int) × Int × Int) × ((List ((Int × Int × Int) × (Int × Int × Int) × Int)) × (List ((Int × Int × Int) × (Int × Int × Int) × (Int × Int × Int) × Int)) × (List (Int × Int × Int × Int)) × Int × (List (Int × Int × Int)) × ((Int × Int × Int) × (Int × Int × Int) × (Int × Int × Int) × Int × Int × Int) × Int × Int) × Bool × Int × Unit) : T (Ex × ((List ((Int × Int × Int) × (Int × Int × Int) × Int)) × (List ((Int × Int × Int) × (Int × Int × Int) × (Int × Int × Int) × Int)) × (List (Int × Int × Int × Int)) × Int × (List (Int × Int × Int)) × ((Int × Int × Int) × (Int × Int × Int) × (Int × Int × Int) × Int × Int × Int) × Int × Int) × ((List ((Int × Int × Int) × (Int × Int × Int) × Int)) × (List ((Int × Int × Int) × (Int × Int × Int) × (Int × Int × Int) × Int)) × (List (Int × Int × Int × Int)) × Int × (List (Int × Int × Int)) × ((Int × Int × Int) × (Int × Int × Int) × (Int × Int × Int) × Int × Int × Int) × Int × Int) × Bool × Int × Unit) := T.ite (decide (x.2.2.2.1 < (↑(List.length x.1.2.2.2.2.1) : Int))) (T.opt (lget x.1.2.2.2.2.1 x.2.2.2.1) fun y => T.opt (lget x.2.1.2.2.2.2.1 x.2.2.2.1) fun y_1 => T.ite (!(y.1 == y_1.fst && (y.2.1 == y_1.snd.fst && y.2.2 == y_1.snd.snd))) (T.ret (Ex.ret, x.1, x.2.1, false, x.2.2.2.1, ())) (T.ret (Ex.normal, x.1, x.2.1, x.2.2.1, W (x.2.2.2.1 + (1 : Int)), ()))) (T.ret (Ex.exit (6 : Nat), x.1, x.2.1, x.2.2.1, x.2.2.2.1, ()))
noncomputable def ref22_Same.l6 (x : ((List ((Int × Int × Int) × (Int × Int × Int) × Int)) × (List ((Int × Int × Int) × (Int × Int × Int) × (Int × Int × Int) × Int)) × (List (Int × Int × Int × Int)) × Int × (List (Int × Int × Int)) × ((Int × Int × Int) × (Int × Int × Int) × (Int × Int × Int) × Int × Int × Int) × Int × Int) × ((List ((Int × Int × Int) × (Int × Int × Int) × Int)) × (List ((Int × Int × Int) × (Int × Int × Int) × (Int × Int × Int) × Int)) × (List (Int × Int × Int × Int)) × Int × (List (Int × Int × Int)) × ((Int × Int × Int) × (Int × Int × Int) × (Int × Int × Int) × Int × Int × Int) × Int × Int) × Bool × Int × Unit) : Option (Ex × ((List ((Int × Int × Int) × (Int × Int × Int) × Int)) × (List ((Int × Int × Int) × (Int × Int × Int) × (Int × Int × Int) × Int)) × (List (Int × Int × Int × Int)) × Int × (List (Int × Int × Int)) × ((Int × Int × Int) × (Int × Int × Int) × (Int × Int × Int) × Int × Int × Int) × Int × Int) × ((List ((Int × Int × Int) × (Int × Int × Int) × Int)) × (List ((Int × Int × Int) × (Int × Int × Int) × (Int × Int × Int) × Int)) × (List (Int × Int × Int × Int)) × Int × (List (Int × Int × Int)) × ((Int × Int × Int) × (Int × Int × Int) × (Int × Int × Int) × Int × Int × Int) × Int × Int) × Bool × Int × Unit) := (iterT ref22_Same.t6 rounds x).run
theorem ref22_Same.k6 : bodies 6 (lp Tryz.f14 []) = [.loop (loopIn 6 (lp Tryz.f14 []))] ∧ WP Tryz.prog 0 (.block 6 (.loop (loopIn 6 (lp Tryz.f14 [])))) (loopS ref22_Same.L6 143 6 [.exit 6, .ret] ref22_Same.l6) :=
  loop_tree (L := ref22_Same.L6) (F := ({ quiet := Xs, deep := noDeep } : Fns)) (D := D0) (tab := []) (t := ref22_Same.t6) mixed Xok (deep_none _) (fun _ => rfl) (by kernel_rfl) (by kernel_rfl) trivial (fun x => by kernel_rfl)
noncomputable def ref22_Same.t (x : ((List ((Int × Int × Int) × (Int × Int × Int) × Int)) × (List ((Int × Int × Int) × (Int × Int × Int) × (Int × Int × Int) × Int)) × (List (Int × Int × Int × Int)) × Int × (List (Int × Int × Int)) × ((Int × Int × Int) × (Int × Int × Int) × (Int × Int × Int) × Int × Int × Int) × Int × Int) × ((List ((Int × Int × Int) × (Int × Int × Int) × Int)) × (List ((Int × Int × Int) × (Int × Int × Int) × (Int × Int × Int) × Int)) × (List (Int × Int × Int × Int)) × Int × (List (Int × Int × Int)) × ((Int × Int × Int) × (Int × Int × Int) × (Int × Int × Int) × Int × Int × Int) × Int × Int)) : T (Bool) := T.ite ((↑(List.length x.1.1) : Int) != (↑(List.length x.2.1) : Int) || (↑(List.length x.1.2.1) : Int) != (↑(List.length x.2.2.1) : Int) || (↑(List.length x.1.2.2.1) : Int) != (↑(List.length x.2.2.2.1) : Int) || (↑(List.length x.1.2.2.2.2.1) : Int) != (↑(List.length x.2.2.2.2.2.1) : Int) || x.1.2.2.2.1 != x.2.2.2.2.1 || !(x.1.2.2.2.2.2.1.1.1 == x.2.2.2.2.2.2.1.1.1 && (x.1.2.2.2.2.2.1.1.2.1 == x.2.2.2.2.2.2.1.1.2.1 && x.1.2.2.2.2.2.1.1.2.2 == x.2.2.2.2.2.2.1.1.2.2) && (x.1.2.2.2.2.2.1.2.1.1 == x.2.2.2.2.2.2.1.2.1.1 && (x.1.2.2.2.2.2.1.2.1.2.1 == x.2.2.2.2.2.2.1.2.1.2.1 && x.1.2.2.2.2.2.1.2.1.2.2 == x.2.2.2.2.2.2.1.2.1.2.2) && (x.1.2.2.2.2.2.1.2.2.1.1 == x.2.2.2.2.2.2.1.2.2.1.1 && (x.1.2.2.2.2.2.1.2.2.1.2.1 == x.2.2.2.2.2.2.1.2.2.1.2.1 && x.1.2.2.2.2.2.1.2.2.1.2.2 == x.2.2.2.2.2.2.1.2.2.1.2.2) && (x.1.2.2.2.2.2.1.2.2.2.1 == x.2.2.2.2.2.2.1.2.2.2.1 && (x.1.2.2.2.2.2.1.2.2.2.2.1 == x.2.2.2.2.2.2.1.2.2.2.2.1 && x.1.2.2.2.2.2.1.2.2.2.2.2 == x.2.2.2.2.2.2.1.2.2.2.2.2))))) || x.1.2.2.2.2.2.2.1 != x.2.2.2.2.2.2.2.1 || x.1.2.2.2.2.2.2.2 != x.2.2.2.2.2.2.2.2) (T.ret false) (T.opt (ref22_Same.l0 (x.1, x.2, false, (0 : Int), ())) fun y => T.ite (exEq y.1 (Ex.exit (0 : Nat))) (T.opt (ref22_Same.l2 (y.2.1, y.2.2.1, y.2.2.2.1, (0 : Int), ())) fun y => T.ite (exEq y.1 (Ex.exit (2 : Nat))) (T.opt (ref22_Same.l4 (y.2.1, y.2.2.1, y.2.2.2.1, (0 : Int), ())) fun y => T.ite (exEq y.1 (Ex.exit (4 : Nat))) (T.opt (ref22_Same.l6 (y.2.1, y.2.2.1, y.2.2.2.1, (0 : Int), ())) fun y => T.ite (exEq y.1 (Ex.exit (6 : Nat))) (T.ret true) (T.ite (exEq y.1 Ex.ret) (T.ret y.2.2.2.1) T.fail)) (T.ite (exEq y.1 Ex.ret) (T.ret y.2.2.2.1) T.fail)) (T.ite (exEq y.1 Ex.ret) (T.ret y.2.2.2.1) T.fail)) (T.ite (exEq y.1 Ex.ret) (T.ret y.2.2.2.1) T.fail))
noncomputable def ref22_Same (x : ((List ((Int × Int × Int) × (Int × Int × Int) × Int)) × (List ((Int × Int × Int) × (Int × Int × Int) × (Int × Int × Int) × Int)) × (List (Int × Int × Int × Int)) × Int × (List (Int × Int × Int)) × ((Int × Int × Int) × (Int × Int × Int) × (Int × Int × Int) × Int × Int × Int) × Int × Int) × ((List ((Int × Int × Int) × (Int × Int × Int) × Int)) × (List ((Int × Int × Int) × (Int × Int × Int) × (Int × Int × Int) × Int)) × (List (Int × Int × Int × Int)) × Int × (List (Int × Int × Int)) × ((Int × Int × Int) × (Int × Int × Int) × (Int × Int × Int) × Int × Int × Int) × Int × Int)) : Option (Bool) := (ref22_Same.t x).run
noncomputable def ref22_Same.q : List AV → T AV := entry [TScn, TScn] (outR [.bool]) fun x => .opt (ref22_Same x) .ret
theorem ref22_Same.ok : FnOK Tryz.prog 14 ref22_Same.q :=
  entry_call (ps := [TScn, TScn]) (rs := [.bool]) (F := ({ quiet := Xs, deep := noDeep } : Fns)) (D := D0) (S := tabS [(0, loopS ref22_Same.L0 143 0 [.exit 0, .ret] ref22_Same.l0), (2, loopS ref22_Same.L2 143 2 [.exit 2, .ret] ref22_Same.l2), (4, loopS ref22_Same.L4 143 4 [.exit 4, .ret] ref22_Same.l4), (6, loopS ref22_Same.L6 143 6 [.exit 6, .ret] ref22_Same.l6)]) (t := ref22_Same.t) mixed Xok (deep_none _) Tryz.func14 (by kernel_rfl) (sok_fn ⟨ref22_Same.k0, ref22_Same.k2, ref22_Same.k4, ref22_Same.k6, trivial⟩) (by kernel_rfl) (fun x => by kernel_rfl)
end Go.Proofs.Pen

namespace Go.Proofs.Pen
open Go Go.Proofs
def law47_Made_shine.L0 : List (Nat × Lay) := [(2, .box TMade), (3, .box (.st (.pair TI (.pair TI (.pair TI (.pair TI (.pair TP (.pair TP (.pair TMove (.pair TMatD (.sl TP))))))))))), (4, .box TMade), (6, .obx [.dat (.sl TMatD), .dat (.sl TTriD), .own TLitD, .dat TI, .dat (.sl TP), .dat TCam, .dat TI, .dat TI, .dat (.sl TI), .own .bool]), (7, .val TI)]
noncomputable def law47_Made_shine.t0 (x : (((List ((Int × Int × Int) × (Int × Int × Int) × Int)) × (List ((Int × Int × Int) × (Int × Int × Int) × (Int × Int × Int) × Int)) × (List (Int × Int × Int × Int)) × Int × (List (Int × Int × Int)) × ((Int × Int × Int) × (Int × Int × Int) × (Int × Int × Int) × Int × Int × Int) × Int × Int) × List (Int) × List (Bool)) × (Int × Int × Int × Int × (Int × Int × Int) × (Int × Int × Int) × ((Int × Int × Int) × (Int × Int × Int) × (Int × Int × Int) × Int × Int × Int) × ((Int × Int × Int) × (Int × Int × Int) × Int) × List (Int × Int × Int)) × (((List ((Int × Int × Int) × (Int × Int × Int) × Int)) × (List ((Int × Int × Int) × (Int × Int × Int) × (Int × Int × Int) × Int)) × (List (Int × Int × Int × Int)) × Int × (List (Int × Int × Int)) × ((Int × Int × Int) × (Int × Int × Int) × (Int × Int × Int) × Int × Int × Int) × Int × Int) × List (Int) × List (Bool)) × ((List ((Int × Int × Int) × (Int × Int × Int) × Int)) × (List ((Int × Int × Int) × (Int × Int × Int) × (Int × Int × Int) × Int)) × List (Int × Int × Int × Int) × Int × (List (Int × Int × Int)) × ((Int × Int × Int) × (Int × Int × Int) × (Int × Int × Int) × Int × Int × Int) × Int × Int × (List (Int)) × List Bool × Unit) × Int × Unit) : T (Ex × (((List ((Int × Int × Int) × (Int × Int × Int) × Int)) × (List ((Int × Int × Int) × (Int × Int × Int) × (Int × Int × Int) × Int)) × (List (Int × Int × Int × Int)) × Int × (List (Int × Int × Int)) × ((Int × Int × Int) × (Int × Int × Int) × (Int × Int × Int) × Int × Int × Int) × Int × Int) × List (Int) × List (Bool)) × (Int × Int × Int × Int × (Int × Int × Int) × (Int × Int × Int) × ((Int × Int × Int) × (Int × Int × Int) × (Int × Int × Int) × Int × Int × Int) × ((Int × Int × Int) × (Int × Int × Int) × Int) × List (Int × Int × Int)) × (((List ((Int × Int × Int) × (Int × Int × Int) × Int)) × (List ((Int × Int × Int) × (Int × Int × Int) × (Int × Int × Int) × Int)) × (List (Int × Int × Int × Int)) × Int × (List (Int × Int × Int)) × ((Int × Int × Int) × (Int × Int × Int) × (Int × Int × Int) × Int × Int × Int) × Int × Int) × List (Int) × List (Bool)) × ((List ((Int × Int × Int) × (Int × Int × Int) × Int)) × (List ((Int × Int × Int) × (Int × Int × Int) × (Int × Int × Int) × Int)) × List (Int × Int × Int × Int) × Int × (List (Int × Int × Int)) × ((Int × Int × Int) × (Int × Int × Int) × (Int × Int × Int) × Int × Int × Int) × Int × Int × (List (Int)) × List Bool × Unit) × Int × Unit) := T.opt (lget x.1.2.1 x.2.1.2.2.2.1) fun y => T.ite (decide (x.2.2.2.2.1 < y)) (T.ite (decide ((x.2.2.2.1.2.2.1.length + (1 : Nat)) * nat_lit 32 ≤ most)) (T.ret (Ex.normal, x.1, x.2.1, x.2.2.1, (x.2.2.2.1.1, x.2.2.2.1.2.1, List.take (x.2.2.2.1.2.2.1.length + (1 : Nat)) (List.take x.2.2.2.1.2.2.1.length x.2.2.2.1.2.2.1 ++ [(x.2.2.2.2.1, x.2.1.2.2.2.2.2.1)]), x.2.2.2.1.2.2.2.1, x.2.2.2.1.2.2.2.2.1, x.2.2.2.1.2.2.2.2.2.1, x.2.2.2.1.2.2.2.2.2.2.1, x.2.2.2.1.2.2.2.2.2.2.2.1, x.2.2.2.1.2.2.2.2.2.2.2.2.1, List.take x.2.2.2.1.2.2.2.2.2.2.2.2.2.1.length x.2.2.2.1.2.2.2.2.2.2.2.2.2.1, ()), W (x.2.2.2.2.1 + (1 : Int)), ())) T.fail) (T.ret (Ex.exit (0 : Nat), x.1, x.2.1, x.2.2.1, (x.2.2.2.1.1, x.2.2.2.1.2.1, List.take x.2.2.2.1.2.2.1.length x.2.2.2.1.2.2.1, x.2.2.2.1.2.2.2.1, x.2.2.2.1.2.2.2.2.1, x.2.2.2.1.2.2.2.2.2.1, x.2.2.2.1.2.2.2.2.2.2.1, x.2.2.2.1.2.2.2.2.2.2.2.1, x.2.2.2.1.2.2.2.2.2.2.2.2.1, List.take x.2.2.2.1.2.2.2.2.2.2.2.2.2.1.length x.2.2.2.1.2.2.2.2.2.2.2.2.2.1, ()), x.2.2.2.2.1, ()))
noncomputable def law47_Made_shine.l0 (x : (((List ((Int × Int × Int) × (Int × Int × Int) × Int)) × (List ((Int × Int × Int) × (Int × Int × Int) × (Int × Int × Int) × Int)) × (List (Int × Int × Int × Int)) × Int × (List (Int × Int × Int)) × ((Int × Int × Int) × (Int × Int × Int) × (Int × Int × Int) × Int × Int × Int) × Int × Int) × List (Int) × List (Bool)) × (Int × Int × Int × Int × (Int × Int × Int) × (Int × Int × Int) × ((Int × Int × Int) × (Int × Int × Int) × (Int × Int × Int) × Int × Int × Int) × ((Int × Int × Int) × (Int × Int × Int) × Int) × List (Int × Int × Int)) × (((List ((Int × Int × Int) × (Int × Int × Int) × Int)) × (List ((Int × Int × Int) × (Int × Int × Int) × (Int × Int × Int) × Int)) × (List (Int × Int × Int × Int)) × Int × (List (Int × Int × Int)) × ((Int × Int × Int) × (Int × Int × Int) × (Int × Int × Int) × Int × Int × Int) × Int × Int) × List (Int) × List (Bool)) × ((List ((Int × Int × Int) × (Int × Int × Int) × Int)) × (List ((Int × Int × Int) × (Int × Int × Int) × (Int × Int × Int) × Int)) × List (Int × Int × Int × Int) × Int × (List (Int × Int × Int)) × ((Int × Int × Int) × (Int × Int × Int) × (Int × Int × Int) × Int × Int × Int) × Int × Int × (List (Int)) × List Bool × Unit) × Int × Unit) : Option (Ex × (((List ((Int × Int × Int) × (Int × Int × Int) × Int)) × (List ((Int × Int × Int) × (Int × Int × Int) × (Int × Int × Int) × Int)) × (List (Int × Int × Int × Int)) × Int × (List (Int × Int × Int)) × ((Int × Int × Int) × (Int × Int × Int) × (Int × Int × Int) × Int × Int × Int) × Int × Int) × List (Int) × List (Bool)) × (Int × Int × Int × Int × (Int × Int × Int) × (Int × Int × Int) × ((Int × Int × Int) × (Int × Int × Int) × (Int × Int × Int) × Int × Int × Int) × ((Int × Int × Int) × (Int × Int × Int) × Int) × List (Int × Int × Int)) × (((List ((Int × Int × Int) × (Int × Int × Int) × Int)) × (List ((Int × Int × Int) × (Int × Int × Int) × (Int × Int × Int) × Int)) × (List (Int × Int × Int × Int)) × Int × (List (Int × Int × Int)) × ((Int × Int × Int) × (Int × Int × Int) × (Int × Int × Int) × Int × Int × Int) × Int × Int) × List (Int) × List (Bool)) × ((List ((Int × Int × Int) × (Int × Int × Int) × Int)) × (List ((Int × Int × Int) × (Int × Int × Int) × (Int × Int × Int) × Int)) × List (Int × Int × Int × Int) × Int × (List (Int × Int × Int)) × ((Int × Int × Int) × (Int × Int × Int) × (Int × Int × Int) × Int × Int × Int) × Int × Int × (List (Int)) × List Bool × Unit) × Int × Unit) := (iterT law47_Made_shine.t0 rounds x).run
theorem law47_Made_shine.k0 : bodies 0 (lp Tryz.f19 []) = [.loop (loopIn 0 (lp Tryz.f19 []))] ∧ WP Tryz.prog 0 (.block 0 (.loop (loopIn 0 (lp Tryz.f19 [])))) (loopS law47_Made_shine.L0 71 0 [.exit 0] law47_Made_shine.l0) :=
  loop_tree (L := law47_Made_shine.L0) (F := ({ quiet := (ext Xs 9 law47_Made_first.q), deep := noDeep } : Fns)) (D := D0) (tab := []) (t := law47_Made_shine.t0) mixed (quiet_ext Xok law47_Made_first.ok) (deep_none _) (fun _ => rfl) (by kernel_rfl) (by kernel_rfl) trivial (fun x => by kernel_rfl)
noncomputable def law47_Made_shine.t (x : (((List ((Int × Int × Int) × (Int × Int × Int) × Int)) × (List ((Int × Int × Int) × (Int × Int × Int) × (Int × Int × Int) × Int)) × (List (Int × Int × Int × Int)) × Int × (List (Int × Int × Int)) × ((Int × Int × Int) × (Int × Int × Int) × (Int × Int × Int) × Int × Int × Int) × Int × Int) × List (Int) × List (Bool)) × (Int × Int × Int × Int × (Int × Int × Int) × (Int × Int × Int) × ((Int × Int × Int) × (Int × Int × Int) × (Int × Int × Int) × Int × Int × Int) × ((Int × Int × Int) × (Int × Int × Int) × Int) × List (Int × Int × Int))) : T ((((List ((Int × Int × Int) × (Int × Int × Int) × Int)) × (List ((Int × Int × Int) × (Int × Int × Int) × (Int × Int × Int) × Int)) × (List (Int × Int × Int × Int)) × Int × (List (Int × Int × Int)) × ((Int × Int × Int) × (Int × Int × Int) × (Int × Int × Int) × Int × Int × Int) × Int × Int) × List (Int) × List (Bool)) × Int) := T.ite (decide (x.2.2.2.2.1 < (0 : Int)) || decide (x.2.2.2.2.1 ≥ (↑(List.length x.1.2.1) : Int))) (T.ret (x.1, (8 : Int))) (T.opt (lget x.1.2.2 x.2.2.2.2.1) fun y => T.ite y (T.ret (x.1, (2 : Int))) (T.ite (decide (((0 : Nat) + List.length x.1.2.2) * nat_lit 1 ≤ most)) (T.ite (decide ((0 : Int) ≤ x.2.2.2.2.1) && decide (x.2.2.2.2.1 < (↑((0 : Nat) + List.length x.1.2.2) : Int))) (T.opt (List.take (0 : Nat) [] ++ x.1.2.2)[(0 : Nat) + Int.toNat x.2.2.2.2.1]? fun y => T.ite (decide (((0 : Nat) + List.length x.1.1.2.2.1) * nat_lit 32 ≤ most)) (T.opt (law47_Made_first (x.1, x.2.2.2.2.1)) fun y => T.opt (law47_Made_shine.l0 (x.1, x.2, (([], [], [], (0 : Int), [], (((0 : Int), (0 : Int), (0 : Int)), ((0 : Int), (0 : Int), (0 : Int)), ((0 : Int), (0 : Int), (0 : Int)), (0 : Int), (0 : Int), (0 : Int)), (0 : Int), (0 : Int)), [], []), (x.1.1.1, x.1.1.2.1, List.take ((0 : Nat) + List.length x.1.1.2.2.1) (List.take (0 : Nat) [] ++ x.1.1.2.2.1), x.1.1.2.2.2.1, x.1.1.2.2.2.2.1, x.1.1.2.2.2.2.2.1, x.1.1.2.2.2.2.2.2.1, x.1.1.2.2.2.2.2.2.2, x.1.2.1, List.take ((0 : Nat) + List.length x.1.2.2) ((List.take (0 : Nat) [] ++ x.1.2.2).set ((0 : Nat) + Int.toNat x.2.2.2.2.1) true), ()), y, ())) fun y => T.ite (exEq y.1 (Ex.exit (0 : Nat))) (T.ret (((y.2.2.2.2.1.1, y.2.2.2.2.1.2.1, List.take y.2.2.2.2.1.2.2.1.length y.2.2.2.2.1.2.2.1, y.2.2.2.2.1.2.2.2.1, y.2.2.2.2.1.2.2.2.2.1, y.2.2.2.2.1.2.2.2.2.2.1, y.2.2.2.2.1.2.2.2.2.2.2.1, y.2.2.2.2.1.2.2.2.2.2.2.2.1), y.2.2.2.2.1.2.2.2.2.2.2.2.2.1, List.take y.2.2.2.2.1.2.2.2.2.2.2.2.2.2.1.length y.2.2.2.2.1.2.2.2.2.2.2.2.2.2.1), (0 : Int))) T.fail) T.fail) T.fail) T.fail))
noncomputable def law47_Made_shine (x : (((List ((Int × Int × Int) × (Int × Int × Int) × Int)) × (List ((Int × Int × Int) × (Int × Int × Int) × (Int × Int × Int) × Int)) × (List (Int × Int × Int × Int)) × Int × (List (Int × Int × Int)) × ((Int × Int × Int) × (Int × Int × Int) × (Int × Int × Int) × Int × Int × Int) × Int × Int) × List (Int) × List (Bool)) × (Int × Int × Int × Int × (Int × Int × Int) × (Int × Int × Int) × ((Int × Int × Int) × (Int × Int × Int) × (Int × Int × Int) × Int × Int × Int) × ((Int × Int × Int) × (Int × Int × Int) × Int) × List (Int × Int × Int))) : Option ((((List ((Int × Int × Int) × (Int × Int × Int) × Int)) × (List ((Int × Int × Int) × (Int × Int × Int) × (Int × Int × Int) × Int)) × (List (Int × Int × Int × Int)) × Int × (List (Int × Int × Int)) × ((Int × Int × Int) × (Int × Int × Int) × (Int × Int × Int) × Int × Int × Int) × Int × Int) × List (Int) × List (Bool)) × Int) := (law47_Made_shine.t x).run
noncomputable def law47_Made_shine.q : List AV → T AV := entry [TMade, (.st (.pair TI (.pair TI (.pair TI (.pair TI (.pair TP (.pair TP (.pair TMove (.pair TMatD (.sl TP))))))))))] (outR [TMade, TI]) fun x => .opt (law47_Made_shine x) .ret
theorem law47_Made_shine.ok : FnOK Tryz.prog 19 law47_Made_shine.q :=
  entry_call (ps := [TMade, (.st (.pair TI (.pair TI (.pair TI (.pair TI (.pair TP (.pair TP (.pair TMove (.pair TMatD (.sl TP))))))))))]) (rs := [TMade, TI]) (F := ({ quiet := (ext Xs 9 law47_Made_first.q), deep := noDeep } : Fns)) (D := D0) (S := tabS [(0, loopS law47_Made_shine.L0 71 0 [.exit 0] law47_Made_shine.l0)]) (t := law47_Made_shine.t) mixed (quiet_ext Xok law47_Made_first.ok) (deep_none _) Tryz.func19 (by kernel_rfl) (sok_fn ⟨law47_Made_shine.k0, trivial⟩) (by kernel_rfl) (fun x => by kernel_rfl)
end Go.Proofs.Pen

namespace Go.Proofs.Pen
open Go Go.Proofs
def law47_Made_put.L0 : List (Nat × Lay) := [(2, .box TMade), (3, .box (.st (.pair TI (.pair TI (.pair TI (.pair TI (.pair TP (.pair TP (.pair TMove (.pair TMatD (.sl TP))))))))))), (4, .box TMade), (9, .box TMesh), (11, .obx [.dat (.sl TMatD), .own TTriD, .dat (.sl TLitD), .dat TI, .dat (.sl TP), .dat TCam, .dat TI, .dat TI, .dat (.sl TI), .dat (.sl .bool)]), (12, .val TI)]
noncomputable def law47_Made_put.t0 (x : (((List ((Int × Int × Int) × (Int × Int × Int) × Int)) × (List ((Int × Int × Int) × (Int × Int × Int) × (Int × Int × Int) × Int)) × (List (Int × Int × Int × Int)) × Int × (List (Int × Int × Int)) × ((Int × Int × Int) × (Int × Int × Int) × (Int × Int × Int) × Int × Int × Int) × Int × Int) × List (Int) × List (Bool)) × (Int × Int × Int × Int × (Int × Int × Int) × (Int × Int × Int) × ((Int × Int × Int) × (Int × Int × Int) × (Int × Int × Int) × Int × Int × Int) × ((Int × Int × Int) × (Int × Int × Int) × Int) × List (Int × Int × Int)) × (((List ((Int × Int × Int) × (Int × Int × Int) × Int)) × (List ((Int × Int × Int) × (Int × Int × Int) × (Int × Int × Int) × Int)) × (List (Int × Int × Int × Int)) × Int × (List (Int × Int × Int)) × ((Int × Int × Int) × (Int × Int × Int) × (Int × Int × Int) × Int × Int × Int) × Int × Int) × List (Int) × List (Bool)) × ((List (Int × Int × Int)) × List (Int × Int × Int)) × ((List ((Int × Int × Int) × (Int × Int × Int) × Int)) × List ((Int × Int × Int) × (Int × Int × Int) × (Int × Int × Int) × Int) × (List (Int × Int × Int × Int)) × Int × (List (Int × Int × Int)) × ((Int × Int × Int) × (Int × Int × Int) × (Int × Int × Int) × Int × Int × Int) × Int × Int × (List (Int)) × (List (Bool)) × Unit) × Int × Unit) : T (Ex × (((List ((Int × Int × Int) × (Int × Int × Int) × Int)) × (List ((Int × Int × Int) × (Int × Int × Int) × (Int × Int × Int) × Int)) × (List (Int × Int × Int × Int)) × Int × (List (Int × Int × Int)) × ((Int × Int × Int) × (Int × Int × Int) × (Int × Int × Int) × Int × Int × Int) × Int × Int) × List (Int) × List (Bool)) × (Int × Int × Int × Int × (Int × Int × Int) × (Int × Int × Int) × ((Int × Int × Int) × (Int × Int × Int) × (Int × Int × Int) × Int × Int × Int) × ((Int × Int × Int) × (Int × Int × Int) × Int) × List (Int × Int × Int)) × (((List ((Int × Int × Int) × (Int × Int × Int) × Int)) × (List ((Int × Int × Int) × (Int × Int × Int) × (Int × Int × Int) × Int)) × (List (Int × Int × Int × Int)) × Int × (List (Int × Int × Int)) × ((Int × Int × Int) × (Int × Int × Int) × (Int × Int × Int) × Int × Int × Int) × Int × Int) × List (Int) × List (Bool)) × ((List (Int × Int × Int)) × List (Int × Int × Int)) × ((List ((Int × Int × Int) × (Int × Int × Int) × Int)) × List ((Int × Int × Int) × (Int × Int × Int) × (Int × Int × Int) × Int) × (List (Int × Int × Int × Int)) × Int × (List (Int × Int × Int)) × ((Int × Int × Int) × (Int × Int × Int) × (Int × Int × Int) × Int × Int × Int) × Int × Int × (List (Int)) × (List (Bool)) × Unit) × Int × Unit) := T.ite (decide (x.2.2.2.2.2.1 < (↑(List.length x.2.2.2.1.2) : Int))) (T.opt (lget x.2.2.2.1.2 x.2.2.2.2.2.1) fun y => T.opt (lget x.2.2.2.1.1 y.1) fun y_1 => T.opt (lget x.2.2.2.1.1 y.2.1) fun y_2 => T.opt (lget x.2.2.2.1.1 y.2.2) fun y => T.ite (decide ((x.2.2.2.2.1.2.1.length + (1 : Nat)) * nat_lit 80 ≤ most)) (T.ret (Ex.normal, x.1, x.2.1, x.2.2.1, x.2.2.2.1, (x.2.2.2.2.1.1, List.take (x.2.2.2.2.1.2.1.length + (1 : Nat)) (List.take x.2.2.2.2.1.2.1.length x.2.2.2.2.1.2.1 ++ [(y_1, y_2, y, x.2.1.2.2.1)]), x.2.2.2.2.1.2.2.1, x.2.2.2.2.1.2.2.2.1, x.2.2.2.2.1.2.2.2.2.1, x.2.2.2.2.1.2.2.2.2.2.1, x.2.2.2.2.1.2.2.2.2.2.2.1, x.2.2.2.2.1.2.2.2.2.2.2.2.1, x.2.2.2.2.1.2.2.2.2.2.2.2.2.1, x.2.2.2.2.1.2.2.2.2.2.2.2.2.2.1, ()), W (x.2.2.2.2.2.1 + (1 : Int)), ())) T.fail) (T.ret (Ex.exit (0 : Nat), x.1, x.2.1, x.2.2.1, x.2.2.2.1, (x.2.2.2.2.1.1, List.take x.2.2.2.2.1.2.1.length x.2.2.2.2.1.2.1, x.2.2.2.2.1.2.2.1, x.2.2.2.2.1.2.2.2.1, x.2.2.2.2.1.2.2.2.2.1, x.2.2.2.2.1.2.2.2.2.2.1, x.2.2.2.2.1.2.2.2.2.2.2.1, x.2.2.2.2.1.2.2.2.2.2.2.2.1, x.2.2.2.2.1.2.2.2.2.2.2.2.2.1, x.2.2.2.2.1.2.2.2.2.2.2.2.2.2.1, ()), x.2.2.2.2.2.1, ()))
noncomputable def law47_Made_put.l0 (x : (((List ((Int × Int × Int) × (Int × Int × Int) × Int)) × (List ((Int × Int × Int) × (Int × Int × Int) × (Int × Int × Int) × Int)) × (List (Int × Int × Int × Int)) × Int × (List (Int × Int × Int)) × ((Int × Int × Int) × (Int × Int × Int) × (Int × Int × Int) × Int × Int × Int) × Int × Int) × List (Int) × List (Bool)) × (Int × Int × Int × Int × (Int × Int × Int) × (Int × Int × Int) × ((Int × Int × Int) × (Int × Int × Int) × (Int × Int × Int) × Int × Int × Int) × ((Int × Int × Int) × (Int × Int × Int) × Int) × List (Int × Int × Int)) × (((List ((Int × Int × Int) × (Int × Int × Int) × Int)) × (List ((Int × Int × Int) × (Int × Int × Int) × (Int × Int × Int) × Int)) × (List (Int × Int × Int × Int)) × Int × (List (Int × Int × Int)) × ((Int × Int × Int) × (Int × Int × Int) × (Int × Int × Int) × Int × Int × Int) × Int × Int) × List (Int) × List (Bool)) × ((List (Int × Int × Int)) × List (Int × Int × Int)) × ((List ((Int × Int × Int) × (Int × Int × Int) × Int)) × List ((Int × Int × Int) × (Int × Int × Int) × (Int × Int × Int) × Int) × (List (Int × Int × Int × Int)) × Int × (List (Int × Int × Int)) × ((Int × Int × Int) × (Int × Int × Int) × (Int × Int × Int) × Int × Int × Int) × Int × Int × (List (Int)) × (List (Bool)) × Unit) × Int × Unit) : Option (Ex × (((List ((Int × Int × Int) × (Int × Int × Int) × Int)) × (List ((Int × Int × Int) × (Int × Int × Int) × (Int × Int × Int) × Int)) × (List (Int × Int × Int × Int)) × Int × (List (Int × Int × Int)) × ((Int × Int × Int) × (Int × Int × Int) × (Int × Int × Int) × Int × Int × Int) × Int × Int) × List (Int) × List (Bool)) × (Int × Int × Int × Int × (Int × Int × Int) × (Int × Int × Int) × ((Int × Int × Int) × (Int × Int × Int) × (Int × Int × Int) × Int × Int × Int) × ((Int × Int × Int) × (Int × Int × Int) × Int) × List (Int × Int × Int)) × (((List ((Int × Int × Int) × (Int × Int × Int) × Int)) × (List ((Int × Int × Int) × (Int × Int × Int) × (Int × Int × Int) × Int)) × (List (Int × Int × Int × Int)) × Int × (List (Int × Int × Int)) × ((Int × Int × Int) × (Int × Int × Int) × (Int × Int × Int) × Int × Int × Int) × Int × Int) × List (Int) × List (Bool)) × ((List (Int × Int × Int)) × List (Int × Int × Int)) × ((List ((Int × Int × Int) × (Int × Int × Int) × Int)) × List ((Int × Int × Int) × (Int × Int × Int) × (Int × Int × Int) × Int) × (List (Int × Int × Int × Int)) × Int × (List (Int × Int × Int)) × ((Int × Int × Int) × (Int × Int × Int) × (Int × Int × Int) × Int × Int × Int) × Int × Int × (List (Int)) × (List (Bool)) × Unit) × Int × Unit) := (iterT law47_Made_put.t0 rounds x).run
theorem law47_Made_put.k0 : bodies 0 (lp Tryz.f21 []) = [.loop (loopIn 0 (lp Tryz.f21 []))] ∧ WP Tryz.prog 0 (.block 0 (.loop (loopIn 0 (lp Tryz.f21 [])))) (loopS law47_Made_put.L0 140 0 [.exit 0] law47_Made_put.l0) :=
  loop_tree (L := law47_Made_put.L0) (F := ({ quiet := (ext (ext Xs 41 ref47_Shape.q) 42 ref47_Moved.q), deep := noDeep } : Fns)) (D := D0) (tab := []) (t := law47_Made_put.t0) mixed (quiet_ext (quiet_ext Xok ref47_Shape.ok) ref47_Moved.ok) (deep_none _) (fun _ => rfl) (by kernel_rfl) (by kernel_rfl) trivial (fun x => by kernel_rfl)
noncomputable def law47_Made_put.t (x : (((List ((Int × Int × Int) × (Int × Int × Int) × Int)) × (List ((Int × Int × Int) × (Int × Int × Int) × (Int × Int × Int) × Int)) × (List (Int × Int × Int × Int)) × Int × (List (Int × Int × Int)) × ((Int × Int × Int) × (Int × Int × Int) × (Int × Int × Int) × Int × Int × Int) × Int × Int) × List (Int) × List (Bool)) × (Int × Int × Int × Int × (Int × Int × Int) × (Int × Int × Int) × ((Int × Int × Int) × (Int × Int × Int) × (Int × Int × Int) × Int × Int × Int) × ((Int × Int × Int) × (Int × Int × Int) × Int) × List (Int × Int × Int))) : T ((((List ((Int × Int × Int) × (Int × Int × Int) × Int)) × (List ((Int × Int × Int) × (Int × Int × Int) × (Int × Int × Int) × Int)) × (List (Int × Int × Int × Int)) × Int × (List (Int × Int × Int)) × ((Int × Int × Int) × (Int × Int × Int) × (Int × Int × Int) × Int × Int × Int) × Int × Int) × List (Int) × List (Bool)) × Int × Int) := T.ite (decide (x.2.2.1 < (1 : Int)) || decide (x.2.2.1 > (3 : Int)) || decide (x.2.2.2.1 < (0 : Int)) || decide (x.2.2.2.1 ≥ (↑(List.length x.1.1.1) : Int))) (T.ret (x.1, (0 : Int), (2 : Int))) (T.opt (ref47_Shape (x.2.2.1, x.2.2.2.2.2.1)) fun y => T.ite (y.2 != (0 : Int)) (T.ret (x.1, (0 : Int), y.2)) (T.opt (ref47_Moved (x.2.2.2.2.2.2.2.1, y.1)) fun y => T.ite (y.2 != (0 : Int)) (T.ret (x.1, (0 : Int), y.2)) (T.ite (decide (W ((↑(List.length x.1.1.2.1) : Int) + (↑(List.length y.1.2) : Int)) > (512 : Int))) (T.ret (x.1, (0 : Int), (4 : Int))) (T.ite (decide (((0 : Nat) + List.length x.1.1.2.1) * nat_lit 80 ≤ most)) (T.opt (law47_Made_put.l0 (x.1, x.2, (([], [], [], (0 : Int), [], (((0 : Int), (0 : Int), (0 : Int)), ((0 : Int), (0 : Int), (0 : Int)), ((0 : Int), (0 : Int), (0 : Int)), (0 : Int), (0 : Int), (0 : Int)), (0 : Int), (0 : Int)), [], []), y.1, (x.1.1.1, List.take ((0 : Nat) + List.length x.1.1.2.1) (List.take (0 : Nat) [] ++ x.1.1.2.1), x.1.1.2.2.1, x.1.1.2.2.2.1, x.1.1.2.2.2.2.1, x.1.1.2.2.2.2.2.1, x.1.1.2.2.2.2.2.2.1, x.1.1.2.2.2.2.2.2.2, x.1.2.1, x.1.2.2, ()), (0 : Int), ())) fun y => T.ite (exEq y.1 (Ex.exit (0 : Nat))) (T.ite (decide (((0 : Nat) + List.length y.2.1.2.1) * nat_lit 8 ≤ most)) (T.ite (decide (((0 : Nat) + List.length y.2.1.2.1 + (1 : Nat)) * nat_lit 8 ≤ most)) (T.ite (decide (((0 : Nat) + List.length y.2.1.2.2) * nat_lit 1 ≤ most)) (T.ite (decide (((0 : Nat) + List.length y.2.1.2.2 + (1 : Nat)) * nat_lit 1 ≤ most)) (T.ret (((y.2.2.2.2.2.1.1, List.take y.2.2.2.2.2.1.2.1.length y.2.2.2.2.2.1.2.1, y.2.2.2.2.2.1.2.2.1, y.2.2.2.2.2.1.2.2.2.1, y.2.2.2.2.2.1.2.2.2.2.1, y.2.2.2.2.2.1.2.2.2.2.2.1, y.2.2.2.2.2.1.2.2.2.2.2.2.1, y.2.2.2.2.2.1.2.2.2.2.2.2.2.1), List.take ((0 : Nat) + List.length y.2.1.2.1 + (1 : Nat)) (List.take ((0 : Nat) + List.length y.2.1.2.1) (List.take (0 : Nat) [] ++ y.2.1.2.1) ++ [(↑y.2.2.2.2.2.1.2.1.length : Int)]), List.take ((0 : Nat) + List.length y.2.1.2.2 + (1 : Nat)) (List.take ((0 : Nat) + List.length y.2.1.2.2) (List.take (0 : Nat) [] ++ y.2.1.2.2) ++ [false])), (↑(List.length y.2.1.2.1) : Int), (0 : Int))) T.fail) T.fail) T.fail) T.fail) T.fail) T.fail))))
noncomputable def law47_Made_put (x : (((List ((Int × Int × Int) × (Int × Int × Int) × Int)) × (List ((Int × Int × Int) × (Int × Int × Int) × (Int × Int × Int) × Int)) × (List (Int × Int × Int × Int)) × Int × (List (Int × Int × Int)) × ((Int × Int × Int) × (Int × Int × Int) × (Int × Int × Int) × Int × Int × Int) × Int × Int) × List (Int) × List (Bool)) × (Int × Int × Int × Int × (Int × Int × Int) × (Int × Int × Int) × ((Int × Int × Int) × (Int × Int × Int) × (Int × Int × Int) × Int × Int × Int) × ((Int × Int × Int) × (Int × Int × Int) × Int) × List (Int × Int × Int))) : Option ((((List ((Int × Int × Int) × (Int × Int × Int) × Int)) × (List ((Int × Int × Int) × (Int × Int × Int) × (Int × Int × Int) × Int)) × (List (Int × Int × Int × Int)) × Int × (List (Int × Int × Int)) × ((Int × Int × Int) × (Int × Int × Int) × (Int × Int × Int) × Int × Int × Int) × Int × Int) × List (Int) × List (Bool)) × Int × Int) := (law47_Made_put.t x).run
noncomputable def law47_Made_put.q : List AV → T AV := entry [TMade, (.st (.pair TI (.pair TI (.pair TI (.pair TI (.pair TP (.pair TP (.pair TMove (.pair TMatD (.sl TP))))))))))] (outR [TMade, TI, TI]) fun x => .opt (law47_Made_put x) .ret
theorem law47_Made_put.ok : FnOK Tryz.prog 21 law47_Made_put.q :=
  entry_call (ps := [TMade, (.st (.pair TI (.pair TI (.pair TI (.pair TI (.pair TP (.pair TP (.pair TMove (.pair TMatD (.sl TP))))))))))]) (rs := [TMade, TI, TI]) (F := ({ quiet := (ext (ext Xs 41 ref47_Shape.q) 42 ref47_Moved.q), deep := noDeep } : Fns)) (D := D0) (S := tabS [(0, loopS law47_Made_put.L0 140 0 [.exit 0] law47_Made_put.l0)]) (t := law47_Made_put.t) mixed (quiet_ext (quiet_ext Xok ref47_Shape.ok) ref47_Moved.ok) (deep_none _) Tryz.func21 (by kernel_rfl) (sok_fn ⟨law47_Made_put.k0, trivial⟩) (by kernel_rfl) (fun x => by kernel_rfl)
end Go.Proofs.Pen
