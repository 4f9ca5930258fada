/- A part of the proof that the law ParseReads is true of every input: models of the functions that the law reaches, and what holds of them. -/
import Derived.Test.YtncgifjccpngfaaGreatDoorPenKit0
import Derived.Test.YtncgifjccpngfaaGreatDoorPenKit1
import Derived.Test.YtncgifjccpngfaaGreatDoorPenKit2
import Derived.Test.YtncgifjccpngfaaGreatDoorPenKit3
import Derived.Test.YtncgifjccpngfaaGreatDoorPenParseReads4
import Derived.Test.YtncgifjccpngfaaGreatDoorPenParseReads5
import Derived.Test.YtncgifjccpngfaaGreatDoorPenParseReads6
namespace Go.Proofs.Pen
open Go Go.Proofs

theorem mget_set : ∀ (l : List (ByteArray × Bool)) (k : ByteArray) (v : Bool) (k' : ByteArray), mget (mset l k v) k' = if k = k' then some v else mget l k'
  | [], k, v, k' => by
    unfold mset mget mget
    by_cases h : k = k'
    · subst h; rw [if_pos ((ba_beq _ _).2 rfl), if_pos rfl]
    · rw [if_neg (fun e => h ((ba_beq _ _).1 e)), if_neg h]
  | x :: l, k, v, k' => by
    have ih := mget_set l k v k'
    unfold mset
    by_cases hx : x.1 = k
    · rw [if_pos ((ba_beq _ _).2 hx)]
      unfold mget
      by_cases h : k = k'
      · subst h; rw [if_pos ((ba_beq _ _).2 rfl), if_pos rfl]
      · rw [if_neg (fun e => h ((ba_beq _ _).1 e)), if_neg h]
        rw [if_neg (fun e => h (hx.symm.trans ((ba_beq _ _).1 e)))]
    · rw [if_neg (fun e => hx ((ba_beq _ _).1 e))]
      unfold mget
      by_cases h2 : x.1 = k'
      · rw [if_pos ((ba_beq _ _).2 h2), if_pos ((ba_beq _ _).2 h2), if_neg (fun e => hx (h2.trans e.symm))]
      · rw [if_neg (fun e => h2 ((ba_beq _ _).1 e)), if_neg (fun e => h2 ((ba_beq _ _).1 e))]
        exact ih
def flagM (seen : List (ByteArray × Bool)) (c : ByteArray) : Bool := (mget seen c).getD false
theorem flag_same (seen : List (ByteArray × Bool)) (c : ByteArray) : flagM (mset seen c true) c = true := by
  unfold flagM; rw [mget_set, if_pos rfl]; rfl
theorem flag_other (seen : List (ByteArray × Bool)) {c d : ByteArray} (h : c ≠ d) : flagM (mset seen c true) d = flagM seen d := by
  unfold flagM; rw [mget_set, if_neg h]

theorem tl_ne {a b : ByteArray} (h : a ≠ b) : (ByteArray.toList a == ByteArray.toList b) = false := by
  rw [beq_eq_false_iff_ne]
  exact fun e => h (toList_inj e)

def known : List ByteArray := [cMat, cMatt, cTri, cLight, cSky, cCell, cCam, cPin, cFil]
theorem takes_unknown {w : ByteArray} (h : ∀ c ∈ known, w ≠ c) : parse_takes w = some (0, 0, false) := by
  have g : ∀ c ∈ known, (ByteArray.toList w == ByteArray.toList c) = false := fun c hc => tl_ne (h c hc)
  unfold parse_takes parse_takes.t
  rw [tr_no (g cMat (by simp [known])), tr_no (g cMatt (by simp [known])), tr_no (g cCell (by simp [known])), tr_no (g cTri (by simp [known])), tr_no (g cLight (by simp [known])), tr_no (g cSky (by simp [known])), tr_no (g cCam (by simp [known])), tr_no (g cPin (by simp [known])), tr_no (g cFil (by simp [known])), tr_ret]
theorem rtakes_unknown {w : ByteArray} (h : ∀ c ∈ known, w ≠ c) : ref24_Takes w = some (-1, 0) := by
  have g : ∀ c ∈ known, (ByteArray.toList c == ByteArray.toList w) = false := fun c hc => tl_ne (fun e => h c hc e.symm)
  unfold ref24_Takes ref24_Takes.t ref24_Takes.l0
  have key := iter_count (t := ref24_Takes.t0) (fun k => (w, 0, 0, known, [7, 3, 10, 4, 1, 3, 12, 10, 2], [0, 0, 1, 1, 1, 0, 0, 0, 1], (k : Int), ())) (e := .exit 0) (z := (w, 0, 0, known, [7, 3, 10, 4, 1, 3, 12, 10, 2], [0, 0, 1, 1, 1, 0, 0, 0, 1], 9, ())) (by simp) 9 0 rounds (fun k _ hk => by
    have hk : k < 9 := by omega
    have hkl : k < known.length := hk
    have hget : known[0 + Int.toNat (k : Int)]? = some known[k] := by rw [Nat.zero_add, Int.toNat_natCast, List.getElem?_eq_getElem hkl]
    unfold ref24_Takes.t0
    dsimp only
    rw [tr_yes (decide_eq_true (by omega)), tr_yes (by simp [known]; omega), tr_opt, hget, Option.bind_some, tr_no (g _ (List.getElem_mem hkl)), tr_ret, W_succ (by omega), List.take_length]
    rfl) (by rfl) (by unfold rounds; omega)
  have key : (iterT ref24_Takes.t0 rounds (w, 0, 0, known, [7, 3, 10, 4, 1, 3, 12, 10, 2], [0, 0, 1, 1, 1, 0, 0, 0, 1], (0 : Int), ())).run = _ := key
  have key2 : (iterT ref24_Takes.t0 rounds (w, 0, 0, List.take 9 known, List.take 9 [7, 3, 10, 4, 1, 3, 12, 10, 2], List.take 9 [0, 0, 1, 1, 1, 0, 0, 0, 1], (0 : Int), ())).run = _ := key
  rw [tr_opt]
  show ((iterT ref24_Takes.t0 rounds (w, 0, 0, List.take 9 known, List.take 9 [7, 3, 10, 4, 1, 3, 12, 10, 2], List.take 9 [0, 0, 1, 1, 1, 0, 0, 0, 1], (0 : Int), ())).run.bind _) = _
  rw [key2]
  rfl

def more1 (n : Nat) : Nat := if 3 ≤ n then 1 else 0
structure Grow (s s' : ScT) (n : Nat) : Prop where
  a : s'.1.length ≤ s.1.length + more1 n
  b : s'.2.1.length ≤ s.2.1.length + more1 n
  c : s'.2.2.1.length ≤ s.2.2.1.length + more1 n
  d : s'.2.2.2.2.1.length ≤ s.2.2.2.2.1.length + more1 n

theorem line_step (s : ScT) (seen : List (ByteArray × Bool)) (n0 : Int) (w0 : List ByteArray) (L : List (Int × List ByteArray)) (i : Nat) (hi : i < L.length) (hn : L.length ≤ 6001) (k : Nat) (w : ByteArray) (args : List ByteArray) (hg : L[i] = (((k + 1 : Nat) : Int), w :: args))
    (Ls : List ByteArray) (hi2 : k < Ls.length) (hn2 : Ls.length ≤ 6001) (hg2 : ref23_Words Ls[k] = some (w :: args)) (hl : args.length ≤ 6000) (h1 : s.1.length ≤ 6001) (h2 : s.2.1.length ≤ 6001) (h3 : s.2.2.1.length ≤ 6001) (h4 : s.2.2.2.2.1.length ≤ 6001) :
    (∃ e : W3, e.1 ≠ 0 ∧ e.2.1 ≠ 0 ∧ (∃ y, (parse_Parse.t0 (ZS, .nil, (s.1, s.2.1, s.2.2.1, s.2.2.2.1, s.2.2.2.2.1, s.2.2.2.2.2.1, s.2.2.2.2.2.2.1, s.2.2.2.2.2.2.2, seen, n0, w0, ()), L, (L.length : Int), (i : Int), ())).run = some (.ret, ZS, mkErr (some e), y)) ∧
      ∃ y, (ref24_Parse.t0 (ZS, (0, 0, 0), s, flagM seen cCam, flagM seen cSky, flagM seen cFil, Ls, (k : Int), ())).run = some (.ret, ZS, e, y)) ∨
    ∃ (s' : ScT) (seen' : List (ByteArray × Bool)), (parse_Parse.t0 (ZS, .nil, (s.1, s.2.1, s.2.2.1, s.2.2.2.1, s.2.2.2.2.1, s.2.2.2.2.2.1, s.2.2.2.2.2.2.1, s.2.2.2.2.2.2.2, seen, n0, w0, ()), L, (L.length : Int), (i : Int), ())).run = some (.normal, ZS, .nil, (s'.1, s'.2.1, s'.2.2.1, s'.2.2.2.1, s'.2.2.2.2.1, s'.2.2.2.2.2.1, s'.2.2.2.2.2.2.1, s'.2.2.2.2.2.2.2, seen', ((k + 1 : Nat) : Int), w :: args, ()), L, (L.length : Int), ((i + 1 : Nat) : Int), ()) ∧
      (ref24_Parse.t0 (ZS, (0, 0, 0), s, flagM seen cCam, flagM seen cSky, flagM seen cFil, Ls, (k : Int), ())).run = some (.normal, ZS, (0, 0, 0), s', flagM seen' cCam, flagM seen' cSky, flagM seen' cFil, Ls, ((k + 1 : Nat) : Int), ()) ∧ Grow s s' args.length := by
  by_cases hw : w = cMat
  · subst hw
    have ht : parse_takes cMat = some (((7 : Nat) : Int), 0, true) := by kernel_rfl
    have hr : ref24_Takes cMat = some (((7 : Nat) : Int), 0) := by kernel_rfl
    by_cases ha : args.length = 7
    · cases hk : nums 0 0 args with
      | none => exact .inl ⟨(9, 6, ((k + 1 : Nat) : Int)), by simp, by simp, code_form s seen n0 w0 L i hi _ _ args hg ht hl ha hk, ref_form s _ _ _ Ls k hi2 hn2 _ args hl hg2 hr ha hk⟩
      | some ks =>
        have hlen := (nums_len _ _ _ _ hk).trans ha
        rcases ks with _ | ⟨a0, ks⟩
        · simp at hlen
        rcases ks with _ | ⟨a1, ks⟩
        · simp at hlen
        rcases ks with _ | ⟨a2, ks⟩
        · simp at hlen
        rcases ks with _ | ⟨a3, ks⟩
        · simp at hlen
        rcases ks with _ | ⟨a4, ks⟩
        · simp at hlen
        rcases ks with _ | ⟨a5, ks⟩
        · simp at hlen
        rcases ks with _ | ⟨a6, ks⟩
        · simp at hlen
        rcases ks with _ | ⟨z, ks⟩
        rotate_left
        · simp at hlen
        have hm : more1 args.length = 1 := by rw [ha]; rfl
        exact .inr ⟨_, seen, code_mat s seen n0 w0 L i hi hn _ args hg a0 a1 a2 a3 a4 a5 a6 hk h1, ref_mat s _ _ _ Ls k hi2 hn2 args hl hg2 a0 a1 a2 a3 a4 a5 a6 hk h1, ⟨by rw [hm]; simp, by rw [hm]; simp, by rw [hm]; simp, by rw [hm]; simp⟩⟩
    · exact .inl ⟨(9, 14, ((k + 1 : Nat) : Int)), by simp, by simp, code_size s seen n0 w0 L i hi _ _ args hg ht hl (by omega), ref_size s _ _ _ Ls k hi2 hn2 _ args hl hg2 hr (by omega) (by omega)⟩
  by_cases hw : w = cMatt
  · subst hw
    have ht : parse_takes cMatt = some (((3 : Nat) : Int), 0, true) := by kernel_rfl
    have hr : ref24_Takes cMatt = some (((3 : Nat) : Int), 0) := by kernel_rfl
    by_cases ha : args.length = 3
    · cases hk : nums 0 0 args with
      | none => exact .inl ⟨(9, 6, ((k + 1 : Nat) : Int)), by simp, by simp, code_form s seen n0 w0 L i hi _ _ args hg ht hl ha hk, ref_form s _ _ _ Ls k hi2 hn2 _ args hl hg2 hr ha hk⟩
      | some ks =>
        have hlen := (nums_len _ _ _ _ hk).trans ha
        rcases ks with _ | ⟨a0, ks⟩
        · simp at hlen
        rcases ks with _ | ⟨a1, ks⟩
        · simp at hlen
        rcases ks with _ | ⟨a2, ks⟩
        · simp at hlen
        rcases ks with _ | ⟨z, ks⟩
        rotate_left
        · simp at hlen
        have hm : more1 args.length = 1 := by rw [ha]; rfl
        exact .inr ⟨_, seen, code_matt s seen n0 w0 L i hi hn _ args hg a0 a1 a2 hk h1, ref_matt s _ _ _ Ls k hi2 hn2 args hl hg2 a0 a1 a2 hk h1, ⟨by rw [hm]; simp, by rw [hm]; simp, by rw [hm]; simp, by rw [hm]; simp⟩⟩
    · exact .inl ⟨(9, 14, ((k + 1 : Nat) : Int)), by simp, by simp, code_size s seen n0 w0 L i hi _ _ args hg ht hl (by omega), ref_size s _ _ _ Ls k hi2 hn2 _ args hl hg2 hr (by omega) (by omega)⟩
  by_cases hw : w = cTri
  · subst hw
    have ht : parse_takes cTri = some (((10 : Nat) : Int), 1, true) := by kernel_rfl
    have hr : ref24_Takes cTri = some (((10 : Nat) : Int), 1) := by kernel_rfl
    by_cases ha : args.length = 10
    · cases hk : nums 1 0 args with
      | none => exact .inl ⟨(9, 6, ((k + 1 : Nat) : Int)), by simp, by simp, code_form s seen n0 w0 L i hi _ _ args hg ht hl ha hk, ref_form s _ _ _ Ls k hi2 hn2 _ args hl hg2 hr ha hk⟩
      | some ks =>
        have hlen := (nums_len _ _ _ _ hk).trans ha
        rcases ks with _ | ⟨a0, ks⟩
        · simp at hlen
        rcases ks with _ | ⟨a1, ks⟩
        · simp at hlen
        rcases ks with _ | ⟨a2, ks⟩
        · simp at hlen
        rcases ks with _ | ⟨a3, ks⟩
        · simp at hlen
        rcases ks with _ | ⟨a4, ks⟩
        · simp at hlen
        rcases ks with _ | ⟨a5, ks⟩
        · simp at hlen
        rcases ks with _ | ⟨a6, ks⟩
        · simp at hlen
        rcases ks with _ | ⟨a7, ks⟩
        · simp at hlen
        rcases ks with _ | ⟨a8, ks⟩
        · simp at hlen
        rcases ks with _ | ⟨a9, ks⟩
        · simp at hlen
        rcases ks with _ | ⟨z, ks⟩
        rotate_left
        · simp at hlen
        have hm : more1 args.length = 1 := by rw [ha]; rfl
        exact .inr ⟨_, seen, code_tri s seen n0 w0 L i hi hn _ args hg a0 a1 a2 a3 a4 a5 a6 a7 a8 a9 hk h2, ref_tri s _ _ _ Ls k hi2 hn2 args hl hg2 a0 a1 a2 a3 a4 a5 a6 a7 a8 a9 hk h2, ⟨by rw [hm]; simp, by rw [hm]; simp, by rw [hm]; simp, by rw [hm]; simp⟩⟩
    · exact .inl ⟨(9, 14, ((k + 1 : Nat) : Int)), by simp, by simp, code_size s seen n0 w0 L i hi _ _ args hg ht hl (by omega), ref_size s _ _ _ Ls k hi2 hn2 _ args hl hg2 hr (by omega) (by omega)⟩
  by_cases hw : w = cLight
  · subst hw
    have ht : parse_takes cLight = some (((4 : Nat) : Int), 1, true) := by kernel_rfl
    have hr : ref24_Takes cLight = some (((4 : Nat) : Int), 1) := by kernel_rfl
    by_cases ha : args.length = 4
    · cases hk : nums 1 0 args with
      | none => exact .inl ⟨(9, 6, ((k + 1 : Nat) : Int)), by simp, by simp, code_form s seen n0 w0 L i hi _ _ args hg ht hl ha hk, ref_form s _ _ _ Ls k hi2 hn2 _ args hl hg2 hr ha hk⟩
      | some ks =>
        have hlen := (nums_len _ _ _ _ hk).trans ha
        rcases ks with _ | ⟨a0, ks⟩
        · simp at hlen
        rcases ks with _ | ⟨a1, ks⟩
        · simp at hlen
        rcases ks with _ | ⟨a2, ks⟩
        · simp at hlen
        rcases ks with _ | ⟨a3, ks⟩
        · simp at hlen
        rcases ks with _ | ⟨z, ks⟩
        rotate_left
        · simp at hlen
        have hm : more1 args.length = 1 := by rw [ha]; rfl
        exact .inr ⟨_, seen, code_light s seen n0 w0 L i hi hn _ args hg a0 a1 a2 a3 hk h3, ref_light s _ _ _ Ls k hi2 hn2 args hl hg2 a0 a1 a2 a3 hk h3, ⟨by rw [hm]; simp, by rw [hm]; simp, by rw [hm]; simp, by rw [hm]; simp⟩⟩
    · exact .inl ⟨(9, 14, ((k + 1 : Nat) : Int)), by simp, by simp, code_size s seen n0 w0 L i hi _ _ args hg ht hl (by omega), ref_size s _ _ _ Ls k hi2 hn2 _ args hl hg2 hr (by omega) (by omega)⟩
  by_cases hw : w = cCell
  · subst hw
    have ht : parse_takes cCell = some (((3 : Nat) : Int), 0, true) := by kernel_rfl
    have hr : ref24_Takes cCell = some (((3 : Nat) : Int), 0) := by kernel_rfl
    by_cases ha : args.length = 3
    · cases hk : nums 0 0 args with
      | none => exact .inl ⟨(9, 6, ((k + 1 : Nat) : Int)), by simp, by simp, code_form s seen n0 w0 L i hi _ _ args hg ht hl ha hk, ref_form s _ _ _ Ls k hi2 hn2 _ args hl hg2 hr ha hk⟩
      | some ks =>
        have hlen := (nums_len _ _ _ _ hk).trans ha
        rcases ks with _ | ⟨a0, ks⟩
        · simp at hlen
        rcases ks with _ | ⟨a1, ks⟩
        · simp at hlen
        rcases ks with _ | ⟨a2, ks⟩
        · simp at hlen
        rcases ks with _ | ⟨z, ks⟩
        rotate_left
        · simp at hlen
        have hm : more1 args.length = 1 := by rw [ha]; rfl
        exact .inr ⟨_, seen, code_cell s seen n0 w0 L i hi hn _ args hg a0 a1 a2 hk h4, ref_cell s _ _ _ Ls k hi2 hn2 args hl hg2 a0 a1 a2 hk h4, ⟨by rw [hm]; simp, by rw [hm]; simp, by rw [hm]; simp, by rw [hm]; simp⟩⟩
    · exact .inl ⟨(9, 14, ((k + 1 : Nat) : Int)), by simp, by simp, code_size s seen n0 w0 L i hi _ _ args hg ht hl (by omega), ref_size s _ _ _ Ls k hi2 hn2 _ args hl hg2 hr (by omega) (by omega)⟩
  by_cases hw : w = cSky
  · subst hw
    have ht : parse_takes cSky = some (((1 : Nat) : Int), 1, true) := by kernel_rfl
    have hr : ref24_Takes cSky = some (((1 : Nat) : Int), 1) := by kernel_rfl
    by_cases ha : args.length = 1
    · cases hk : nums 1 0 args with
      | none => exact .inl ⟨(9, 6, ((k + 1 : Nat) : Int)), by simp, by simp, code_form s seen n0 w0 L i hi _ _ args hg ht hl ha hk, ref_form s _ _ _ Ls k hi2 hn2 _ args hl hg2 hr ha hk⟩
      | some ks =>
        have hlen := (nums_len _ _ _ _ hk).trans ha
        rcases ks with _ | ⟨a0, ks⟩
        · simp at hlen
        rcases ks with _ | ⟨z, ks⟩
        rotate_left
        · simp at hlen
        cases hse : flagM seen cSky with
        | true => exact .inl ⟨(9, 2, ((k + 1 : Nat) : Int)), by simp, by simp, ⟨_, code_sky_dup s seen n0 w0 L i hi hn _ args hg a0 hk hse⟩, ⟨_, by have := ref_sky_dup s (flagM seen cCam) (flagM seen cSky) (flagM seen cFil) Ls k hi2 hn2 args hl hg2 a0 hk hse; rw [hse] at this; exact this⟩⟩
        | false =>
          refine .inr ⟨(s.1, s.2.1, s.2.2.1, a0, s.2.2.2.2.1, s.2.2.2.2.2.1, s.2.2.2.2.2.2.1, s.2.2.2.2.2.2.2), mset seen cSky true, code_sky s seen n0 w0 L i hi hn _ args hg a0 hk hse, ?_, ⟨Nat.le_add_right _ _, Nat.le_add_right _ _, Nat.le_add_right _ _, Nat.le_add_right _ _⟩⟩
          have := ref_sky s (flagM seen cCam) (flagM seen cSky) (flagM seen cFil) Ls k hi2 hn2 args hl hg2 a0 hk hse
          rw [hse] at this
          rw [flag_same, flag_other seen (show cSky ≠ cCam by decide), flag_other seen (show cSky ≠ cFil by decide)]
          exact this
    · exact .inl ⟨(9, 14, ((k + 1 : Nat) : Int)), by simp, by simp, code_size s seen n0 w0 L i hi _ _ args hg ht hl (by omega), ref_size s _ _ _ Ls k hi2 hn2 _ args hl hg2 hr (by omega) (by omega)⟩
  by_cases hw : w = cFil
  · subst hw
    have ht : parse_takes cFil = some (((2 : Nat) : Int), 1, true) := by kernel_rfl
    have hr : ref24_Takes cFil = some (((2 : Nat) : Int), 1) := by kernel_rfl
    by_cases ha : args.length = 2
    · cases hk : nums 1 0 args with
      | none => exact .inl ⟨(9, 6, ((k + 1 : Nat) : Int)), by simp, by simp, code_form s seen n0 w0 L i hi _ _ args hg ht hl ha hk, ref_form s _ _ _ Ls k hi2 hn2 _ args hl hg2 hr ha hk⟩
      | some ks =>
        have hlen := (nums_len _ _ _ _ hk).trans ha
        rcases ks with _ | ⟨a0, ks⟩
        · simp at hlen
        rcases ks with _ | ⟨a1, ks⟩
        · simp at hlen
        rcases ks with _ | ⟨z, ks⟩
        rotate_left
        · simp at hlen
        cases hse : flagM seen cFil with
        | true => exact .inl ⟨(9, 2, ((k + 1 : Nat) : Int)), by simp, by simp, ⟨_, code_filter_dup s seen n0 w0 L i hi hn _ args hg a0 a1 hk hse⟩, ⟨_, by have := ref_filter_dup s (flagM seen cCam) (flagM seen cSky) (flagM seen cFil) Ls k hi2 hn2 args hl hg2 a0 a1 hk hse; rw [hse] at this; exact this⟩⟩
        | false =>
          refine .inr ⟨(s.1, s.2.1, s.2.2.1, s.2.2.2.1, s.2.2.2.2.1, s.2.2.2.2.2.1, a0, a1), mset seen cFil true, code_filter s seen n0 w0 L i hi hn _ args hg a0 a1 hk hse, ?_, ⟨Nat.le_add_right _ _, Nat.le_add_right _ _, Nat.le_add_right _ _, Nat.le_add_right _ _⟩⟩
          have := ref_filter s (flagM seen cCam) (flagM seen cSky) (flagM seen cFil) Ls k hi2 hn2 args hl hg2 a0 a1 hk hse
          rw [hse] at this
          rw [flag_same, flag_other seen (show cFil ≠ cCam by decide), flag_other seen (show cFil ≠ cSky by decide)]
          exact this
    · exact .inl ⟨(9, 14, ((k + 1 : Nat) : Int)), by simp, by simp, code_size s seen n0 w0 L i hi _ _ args hg ht hl (by omega), ref_size s _ _ _ Ls k hi2 hn2 _ args hl hg2 hr (by omega) (by omega)⟩
  by_cases hw : w = cPin
  · subst hw
    have ht : parse_takes cPin = some (((10 : Nat) : Int), 0, true) := by kernel_rfl
    have hr : ref24_Takes cPin = some (((10 : Nat) : Int), 0) := by kernel_rfl
    by_cases ha : args.length = 10
    · cases hk : nums 0 0 args with
      | none => exact .inl ⟨(9, 6, ((k + 1 : Nat) : Int)), by simp, by simp, code_form s seen n0 w0 L i hi _ _ args hg ht hl ha hk, ref_form s _ _ _ Ls k hi2 hn2 _ args hl hg2 hr ha hk⟩
      | some ks =>
        have hlen := (nums_len _ _ _ _ hk).trans ha
        rcases ks with _ | ⟨a0, ks⟩
        · simp at hlen
        rcases ks with _ | ⟨a1, ks⟩
        · simp at hlen
        rcases ks with _ | ⟨a2, ks⟩
        · simp at hlen
        rcases ks with _ | ⟨a3, ks⟩
        · simp at hlen
        rcases ks with _ | ⟨a4, ks⟩
        · simp at hlen
        rcases ks with _ | ⟨a5, ks⟩
        · simp at hlen
        rcases ks with _ | ⟨a6, ks⟩
        · simp at hlen
        rcases ks with _ | ⟨a7, ks⟩
        · simp at hlen
        rcases ks with _ | ⟨a8, ks⟩
        · simp at hlen
        rcases ks with _ | ⟨a9, ks⟩
        · simp at hlen
        rcases ks with _ | ⟨z, ks⟩
        rotate_left
        · simp at hlen
        cases hse : flagM seen cCam with
        | true => exact .inl ⟨(9, 2, ((k + 1 : Nat) : Int)), by simp, by simp, ⟨_, code_pinhole_dup s seen n0 w0 L i hi hn _ args hg a0 a1 a2 a3 a4 a5 a6 a7 a8 a9 hk hse⟩, ⟨_, by have := ref_pinhole_dup s (flagM seen cCam) (flagM seen cSky) (flagM seen cFil) Ls k hi2 hn2 args hl hg2 a0 a1 a2 a3 a4 a5 a6 a7 a8 a9 hk hse; rw [hse] at this; exact this⟩⟩
        | false =>
          refine .inr ⟨(s.1, s.2.1, s.2.2.1, s.2.2.2.1, s.2.2.2.2.1, ((a0, a1, a2), (a3, a4, a5), (a6, a7, a8), a9, 0, 1024), s.2.2.2.2.2.2.1, s.2.2.2.2.2.2.2), mset seen cCam true, code_pinhole s seen n0 w0 L i hi hn _ args hg a0 a1 a2 a3 a4 a5 a6 a7 a8 a9 hk hse, ?_, ⟨Nat.le_add_right _ _, Nat.le_add_right _ _, Nat.le_add_right _ _, Nat.le_add_right _ _⟩⟩
          have := ref_pinhole s (flagM seen cCam) (flagM seen cSky) (flagM seen cFil) Ls k hi2 hn2 args hl hg2 a0 a1 a2 a3 a4 a5 a6 a7 a8 a9 hk hse
          rw [hse] at this
          rw [flag_same, flag_other seen (show cCam ≠ cSky by decide), flag_other seen (show cCam ≠ cFil by decide)]
          exact this
    · exact .inl ⟨(9, 14, ((k + 1 : Nat) : Int)), by simp, by simp, code_size s seen n0 w0 L i hi _ _ args hg ht hl (by omega), ref_size s _ _ _ Ls k hi2 hn2 _ args hl hg2 hr (by omega) (by omega)⟩
  by_cases hw : w = cCam
  · subst hw
    have ht : parse_takes cCam = some (((12 : Nat) : Int), 0, true) := by kernel_rfl
    have hr : ref24_Takes cCam = some (((12 : Nat) : Int), 0) := by kernel_rfl
    by_cases ha : args.length = 12
    · cases hk : nums 0 0 args with
      | none => exact .inl ⟨(9, 6, ((k + 1 : Nat) : Int)), by simp, by simp, code_form s seen n0 w0 L i hi _ _ args hg ht hl ha hk, ref_form s _ _ _ Ls k hi2 hn2 _ args hl hg2 hr ha hk⟩
      | some ks =>
        have hlen := (nums_len _ _ _ _ hk).trans ha
        rcases ks with _ | ⟨a0, ks⟩
        · simp at hlen
        rcases ks with _ | ⟨a1, ks⟩
        · simp at hlen
        rcases ks with _ | ⟨a2, ks⟩
        · simp at hlen
        rcases ks with _ | ⟨a3, ks⟩
        · simp at hlen
        rcases ks with _ | ⟨a4, ks⟩
        · simp at hlen
        rcases ks with _ | ⟨a5, ks⟩
        · simp at hlen
        rcases ks with _ | ⟨a6, ks⟩
        · simp at hlen
        rcases ks with _ | ⟨a7, ks⟩
        · simp at hlen
        rcases ks with _ | ⟨a8, ks⟩
        · simp at hlen
        rcases ks with _ | ⟨a9, ks⟩
        · simp at hlen
        rcases ks with _ | ⟨a10, ks⟩
        · simp at hlen
        rcases ks with _ | ⟨a11, ks⟩
        · simp at hlen
        rcases ks with _ | ⟨z, ks⟩
        rotate_left
        · simp at hlen
        cases hse : flagM seen cCam with
        | true => exact .inl ⟨(9, 2, ((k + 1 : Nat) : Int)), by simp, by simp, ⟨_, code_camera_dup s seen n0 w0 L i hi hn _ args hg a0 a1 a2 a3 a4 a5 a6 a7 a8 a9 a10 a11 hk hse⟩, ⟨_, by have := ref_camera_dup s (flagM seen cCam) (flagM seen cSky) (flagM seen cFil) Ls k hi2 hn2 args hl hg2 a0 a1 a2 a3 a4 a5 a6 a7 a8 a9 a10 a11 hk hse; rw [hse] at this; exact this⟩⟩
        | false =>
          refine .inr ⟨(s.1, s.2.1, s.2.2.1, s.2.2.2.1, s.2.2.2.2.1, ((a0, a1, a2), (a3, a4, a5), (a6, a7, a8), a9, a10, a11), s.2.2.2.2.2.2.1, s.2.2.2.2.2.2.2), mset seen cCam true, code_camera s seen n0 w0 L i hi hn _ args hg a0 a1 a2 a3 a4 a5 a6 a7 a8 a9 a10 a11 hk hse, ?_, ⟨Nat.le_add_right _ _, Nat.le_add_right _ _, Nat.le_add_right _ _, Nat.le_add_right _ _⟩⟩
          have := ref_camera s (flagM seen cCam) (flagM seen cSky) (flagM seen cFil) Ls k hi2 hn2 args hl hg2 a0 a1 a2 a3 a4 a5 a6 a7 a8 a9 a10 a11 hk hse
          rw [hse] at this
          rw [flag_same, flag_other seen (show cCam ≠ cSky by decide), flag_other seen (show cCam ≠ cFil by decide)]
          exact this
    · exact .inl ⟨(9, 14, ((k + 1 : Nat) : Int)), by simp, by simp, code_size s seen n0 w0 L i hi _ _ args hg ht hl (by omega), ref_size s _ _ _ Ls k hi2 hn2 _ args hl hg2 hr (by omega) (by omega)⟩
  have hun : ∀ c ∈ known, w ≠ c := by
    intro c hc
    simp only [known, List.mem_cons, List.not_mem_nil, or_false] at hc
    rcases hc with rfl | rfl | rfl | rfl | rfl | rfl | rfl | rfl | rfl <;> assumption
  exact .inl ⟨(9, 15, ((k + 1 : Nat) : Int)), by simp, by simp, code_line s seen n0 w0 L i hi _ w args hg (takes_unknown hun), ref_line s _ _ _ Ls k hi2 hn2 w args hl hg2 (rtakes_unknown hun)⟩
end Go.Proofs.Pen

namespace Go.Proofs.Pen
open Go Go.Proofs

theorem ln_len : ∀ (l : List (List UInt8)) (k : Nat), (ln l k).length ≤ l.length
  | [], _ => by simp [ln]
  | x :: l, k => by
    rw [ln]
    have := ln_len l (k + 1)
    split <;> simp <;> omega

def tot : List (List UInt8) → Nat
  | [] => 0
  | x :: l => x.length + 1 + tot l
theorem sp_tot : ∀ l cur : List UInt8, tot (sp l cur) = cur.length + l.length + 1
  | [], cur => by simp [sp, tot]
  | b :: l, cur => by
    rw [sp]
    split
    · rw [tot, sp_tot l []]; simp; omega
    · rw [sp_tot l (cur ++ [b])]; simp; omega
theorem wd_two : ∀ l cur : List UInt8, 2 * (wd l cur).length ≤ l.length + (if cur = [] then 1 else 2)
  | [], cur => by
    rw [wd]
    split <;> simp
  | b :: l, cur => by
    rw [wd]
    have h1 := wd_two l []
    have h2 := wd_two l (cur ++ [b])
    rw [if_pos rfl] at h1
    rw [if_neg (by simp)] at h2
    by_cases hb : isB b = true
    · rw [if_pos hb]
      by_cases hc : cur = []
      · rw [if_pos hc, if_pos hc]; simp; omega
      · rw [if_neg hc, if_neg hc]; simp; omega
    · rw [if_neg hb]
      simp only [List.length_cons]
      split <;> omega
theorem ws_two (l : List UInt8) : 2 * (ws l).length ≤ l.length + 1 := by
  unfold ws
  rw [List.length_map]
  have h1 := wd_two (tw l) []
  rw [if_pos rfl] at h1
  have h2 := tw_len l
  omega

def Lim (s : ScT) (t : Nat) : Prop := 8 * s.1.length + t ≤ 7200 ∧ 8 * s.2.1.length + t ≤ 7200 ∧ 8 * s.2.2.1.length + t ≤ 7200 ∧ 8 * s.2.2.2.2.1.length + t ≤ 7200
theorem Lim.light {s : ScT} {t : Nat} (h : Lim s t) : lightB s := by
  obtain ⟨a, b, c, d⟩ := h
  exact ⟨by omega, by omega, by omega, by omega⟩
theorem Lim.step {s s' : ScT} {n k t : Nat} (h : Lim s (k + 1 + t)) (g : Grow s s' n) (hk : 2 * (n + 1) ≤ k + 1) : Lim s' t := by
  obtain ⟨a, b, c, d⟩ := h
  obtain ⟨a', b', c', d'⟩ := g
  have hm : 8 * more1 n ≤ k + 1 := by unfold more1; split <;> omega
  exact ⟨by omega, by omega, by omega, by omega⟩

theorem ref_blank (s : ScT) (cam sky fil : Bool) (Ls : List ByteArray) (i : Nat) (hi : i < Ls.length) (hn : Ls.length ≤ 6001) {r : List ByteArray} (hg : ref23_Words Ls[i] = some r) (h0 : r.length = 0) :
    (ref24_Parse.t0 (ZS, (0, 0, 0), s, cam, sky, fil, Ls, (i : Int), ())).run = some (.normal, ZS, (0, 0, 0), s, cam, sky, fil, Ls, ((i + 1 : Nat) : Int), ()) := by
  unfold ref24_Parse.t0
  dsimp only
  have hW : W ((i : Int) + 1) = ((i + 1 : Nat) : Int) := by rw [W_id (by omega) (by omega)]; omega
  rw [tr_yes (decide_eq_true (by omega)), tr_opt, lget_nat Ls hi, Option.bind_some, tr_opt, hg, Option.bind_some, tr_yes (by rw [h0]; rfl), tr_ret, hW]

theorem read_loop : ∀ (post pre : List (List UInt8)) (done : List (Int × List ByteArray)) (s : ScT) (seen : List (ByteArray × Bool)) (n0 : Int) (w0 : List ByteArray) (m1 m2 : Nat),
    pre.length + post.length ≤ 6001 → (∀ x ∈ post, x.length ≤ 6000) → done.length ≤ pre.length → Lim s (tot post) → post.length < m1 → post.length < m2 →
    (∃ e : W3, e.1 ≠ 0 ∧ e.2.1 ≠ 0 ∧ (∃ y, (iterT parse_Parse.t0 m1 (ZS, .nil, (s.1, s.2.1, s.2.2.1, s.2.2.2.1, s.2.2.2.2.1, s.2.2.2.2.2.1, s.2.2.2.2.2.2.1, s.2.2.2.2.2.2.2, seen, n0, w0, ()), done ++ ln post pre.length, ((done ++ ln post pre.length).length : Int), (done.length : Int), ())).run = some (.ret, ZS, mkErr (some e), y)) ∧
      ∃ y, (iterT ref24_Parse.t0 m2 (ZS, (0, 0, 0), s, flagM seen cCam, flagM seen cSky, flagM seen cFil, (pre ++ post).map B, (pre.length : Int), ())).run = some (.ret, ZS, e, y)) ∨
    ∃ (s' : ScT) (seen' : List (ByteArray × Bool)) (n1 : Int) (w1 : List ByteArray), lightB s' ∧
      (∃ y, (iterT parse_Parse.t0 m1 (ZS, .nil, (s.1, s.2.1, s.2.2.1, s.2.2.2.1, s.2.2.2.2.1, s.2.2.2.2.2.1, s.2.2.2.2.2.2.1, s.2.2.2.2.2.2.2, seen, n0, w0, ()), done ++ ln post pre.length, ((done ++ ln post pre.length).length : Int), (done.length : Int), ())).run =
        some (.exit 0, ZS, .nil, (s'.1, s'.2.1, s'.2.2.1, s'.2.2.2.1, s'.2.2.2.2.1, s'.2.2.2.2.2.1, s'.2.2.2.2.2.2.1, s'.2.2.2.2.2.2.2, seen', n1, w1, ()), y)) ∧
      ∃ y, (iterT ref24_Parse.t0 m2 (ZS, (0, 0, 0), s, flagM seen cCam, flagM seen cSky, flagM seen cFil, (pre ++ post).map B, (pre.length : Int), ())).run =
        some (.exit 0, ZS, (0, 0, 0), s', flagM seen' cCam, flagM seen' cSky, flagM seen' cFil, y)
  | _, _, _, _, _, _, _, 0, _, _, _, _, _, hm, _ => absurd hm (Nat.not_lt_zero _)
  | _, _, _, _, _, _, _, _ + 1, 0, _, _, _, _, _, hm => absurd hm (Nat.not_lt_zero _)
  | [], pre, done, s, seen, n0, w0, m1 + 1, m2 + 1, hl, hx, hd, hs, h1, h2 => by
    refine .inr ⟨s, seen, n0, w0, hs.light, ?_, ?_⟩
    · have e : (parse_Parse.t0 (ZS, .nil, (s.1, s.2.1, s.2.2.1, s.2.2.2.1, s.2.2.2.2.1, s.2.2.2.2.2.1, s.2.2.2.2.2.2.1, s.2.2.2.2.2.2.2, seen, n0, w0, ()), done ++ ln [] pre.length, ((done ++ ln [] pre.length).length : Int), (done.length : Int), ())).run =
          some (.exit 0, ZS, .nil, (s.1, s.2.1, s.2.2.1, s.2.2.2.1, s.2.2.2.2.1, s.2.2.2.2.2.1, s.2.2.2.2.2.2.1, s.2.2.2.2.2.2.2, seen, n0, w0, ()), done ++ ln [] pre.length, ((done ++ ln [] pre.length).length : Int), (done.length : Int), ()) := by
        unfold parse_Parse.t0
        dsimp only
        rw [tr_no (by simp [ln]), tr_ret]
        simp only [List.take_length]
      exact ⟨_, iter_stop (by simp) e⟩
    · have e : (ref24_Parse.t0 (ZS, (0, 0, 0), s, flagM seen cCam, flagM seen cSky, flagM seen cFil, (pre ++ []).map B, (pre.length : Int), ())).run = some (.exit 0, ZS, (0, 0, 0), s, flagM seen cCam, flagM seen cSky, flagM seen cFil, (pre ++ []).map B, (pre.length : Int), ()) := by
        unfold ref24_Parse.t0
        dsimp only
        rw [tr_no (by simp), tr_ret]
      exact ⟨_, iter_stop (by simp) e⟩
  | x :: post, pre, done, s, seen, n0, w0, m1 + 1, m2 + 1, hl, hx, hd, hs, h1, h2 => by
    have hl' : pre.length + post.length + 1 ≤ 6001 := by simp at hl; omega
    have hX2 : (pre ++ x :: post).map B = ((pre ++ [x]) ++ post).map B := by simp
    have hpn : (pre ++ [x]).length = pre.length + 1 := by simp
    have hi2 : pre.length < ((pre ++ x :: post).map B).length := by simp
    have hn2 : ((pre ++ x :: post).map B).length ≤ 6001 := by simp; omega
    have hgx : ((pre ++ x :: post).map B)[pre.length] = B x := by simp
    have hg2 : ref23_Words ((pre ++ x :: post).map B)[pre.length] = some (ws x) := by rw [hgx]; exact refWords_eq x (hx x (by simp))
    have hxs : x.length ≤ 6000 := hx x (by simp)
    have hpost : ∀ y ∈ post, y.length ≤ 6000 := fun y hy => hx y (by simp [hy])
    have h1' : post.length < m1 := by simp at h1; omega
    have h2' : post.length < m2 := by simp at h2; omega
    rw [tot] at hs
    by_cases hz : (ws x).length = 0
    · have hln : ln (x :: post) pre.length = ln post (pre ++ [x]).length := by rw [ln, if_pos hz, hpn]
      have hs' : Lim s (tot post) := by obtain ⟨a, b, c, d⟩ := hs; exact ⟨by omega, by omega, by omega, by omega⟩
      have rb := ref_blank s (flagM seen cCam) (flagM seen cSky) (flagM seen cFil) _ _ hi2 hn2 hg2 hz
      rw [hX2] at rb
      rw [hln, hX2, iter_go rb, ← hpn]
      exact read_loop post (pre ++ [x]) done s seen n0 w0 (m1 + 1) m2 (by rw [hpn]; omega) hpost (by rw [hpn]; omega) hs' (by omega) h2'
    · obtain ⟨w, args, hw⟩ : ∃ w args, ws x = w :: args := by
        cases h : ws x with
        | nil => rw [h] at hz; exact absurd rfl hz
        | cons a b => exact ⟨a, b, rfl⟩
      have hcount : 2 * (args.length + 1) ≤ x.length + 1 := by have := ws_two x; rw [hw] at this; simpa using this
      have hln : ln (x :: post) pre.length = (((pre.length + 1 : Nat) : Int), w :: args) :: ln post (pre ++ [x]).length := by rw [ln, if_neg hz, hw, hpn]
      have hll := ln_len post (pre ++ [x]).length
      have hi : done.length < (done ++ ln (x :: post) pre.length).length := by rw [hln]; simp
      have hn : (done ++ ln (x :: post) pre.length).length ≤ 6001 := by rw [hln]; simp at hll ⊢; omega
      have hg : (done ++ ln (x :: post) pre.length)[done.length] = (((pre.length + 1 : Nat) : Int), w :: args) := by simp [hln]
      rw [hw] at hg2
      have hb := hs.light
      have step := line_step s seen n0 w0 (done ++ ln (x :: post) pre.length) done.length hi hn pre.length w args hg ((pre ++ x :: post).map B) hi2 hn2 hg2 (by omega) (by have := hb.1; omega) (by have := hb.2.1; omega) (by have := hb.2.2.1; omega) (by have := hb.2.2.2; omega)
      rcases step with ⟨e, he1, he2, ⟨y1, hy1⟩, y2, hy2⟩ | ⟨s', seen', hc, hr, hgw⟩
      · exact .inl ⟨e, he1, he2, ⟨_, iter_stop (by simp) hy1⟩, ⟨_, iter_stop (by simp) hy2⟩⟩
      · rw [iter_go hc, iter_go hr]
        have hdn : (done ++ [(((pre.length + 1 : Nat) : Int), w :: args)]).length = done.length + 1 := by simp
        have hL : done ++ ln (x :: post) pre.length = (done ++ [(((pre.length + 1 : Nat) : Int), w :: args)]) ++ ln post (pre.length + 1) := by rw [hln, hpn]; simp
        have ih := read_loop post (pre ++ [x]) (done ++ [(((pre.length + 1 : Nat) : Int), w :: args)]) s' seen' ((pre.length + 1 : Nat) : Int) (w :: args) m1 m2 (by rw [hpn]; omega) hpost (by rw [hpn, hdn]; omega) (hs.step hgw hcount) h1' h2'
        rw [hpn, hdn] at ih
        rw [hL, hX2]
        exact ih

def S0 : ScT := ([], [], [], 0, [], ((0, 0, 0), (0, 0, 0), (0, 0, 0), 0, 0, 0), 1, 512)

theorem Read_eq (l : List UInt8) (h : l.length ≤ 6000) : ∃ (o : Option W3) (s : ScT), (∀ w, o = some w → w.1 ≠ 0 ∧ w.2.1 ≠ 0) ∧ lightB s ∧
    parse_Parse (B l) = some (s, mkErr o) ∧ ref24_Parse (B l) = some (s, mkW o) := by
  have hlen := sp_len l []
  have htot := sp_tot l []
  have key := read_loop (sp l []) [] [] S0 [] 0 [] rounds rounds (by simp; omega) (fun x hx => by have := sp_mem l [] x hx; simp at this; omega) (by simp) (by rw [htot]; simp [Lim, S0]; omega) (rounds_gt (by omega)) (rounds_gt (by omega))
  have e1 : parse_Parse (B l) = (parse_Parse.t (B l)).run := rfl
  have e2 : ref24_Parse (B l) = (ref24_Parse.t (B l)).run := rfl
  have hnil : ∀ L : List (Int × List ByteArray), [] ++ L = L := fun L => List.nil_append L
  rw [e1, e2]
  unfold parse_Parse.t ref24_Parse.t
  have hsz : (decide (((B l).size : Int) > 262144)) = false := by rw [B_size]; exact decide_eq_false (by omega)
  rcases key with ⟨e, he1, he2, ⟨y1, hy1⟩, y2, hy2⟩ | ⟨s, seen, n1, w1, hb, ⟨y1, hy1⟩, y2, hy2⟩
  · have hy1 : parse_Parse.l0 (ZS, .nil, ([], [], [], 0, [], ((0, 0, 0), (0, 0, 0), (0, 0, 0), 0, 0, 0), 1, 512, [], 0, [], ()), ln (sp l []) 0, ((ln (sp l []) 0).length : Int), 0, ()) = _ := hy1
    have hy2 : ref24_Parse.l0 (ZS, (0, 0, 0), ([], [], [], 0, [], ((0, 0, 0), (0, 0, 0), (0, 0, 0), 0, 0, 0), 1, 512), false, false, false, (sp l []).map B, 0, ()) = _ := hy2
    refine ⟨some e, ZS, fun w hw => by cases hw; exact ⟨he1, he2⟩, lightZ, ?_, ?_⟩
    · rw [tr_no hsz, tr_opt, Lines_eq l h, Option.bind_some, tr_opt]
      show (parse_Parse.l0 (ZS, _)).bind _ = _
      rw [hy1, Option.bind_some]
      dsimp only
      rw [tr_no (b := exEq Ex.ret (Ex.exit 0)) rfl, tr_yes (b := exEq Ex.ret Ex.ret) rfl, tr_ret]
    · rw [tr_opt, refSplit_eq l h, Option.bind_some, tr_opt]
      show (ref24_Parse.l0 (ZS, _)).bind _ = _
      rw [hy2, Option.bind_some]
      dsimp only
      rw [tr_no (b := exEq Ex.ret (Ex.exit 0)) rfl, tr_yes (b := exEq Ex.ret Ex.ret) rfl, tr_ret]
      rfl
  · have hy1 : parse_Parse.l0 (ZS, .nil, ([], [], [], 0, [], ((0, 0, 0), (0, 0, 0), (0, 0, 0), 0, 0, 0), 1, 512, [], 0, [], ()), ln (sp l []) 0, ((ln (sp l []) 0).length : Int), 0, ()) = _ := hy1
    have hy2 : ref24_Parse.l0 (ZS, (0, 0, 0), ([], [], [], 0, [], ((0, 0, 0), (0, 0, 0), (0, 0, 0), 0, 0, 0), 1, 512), false, false, false, (sp l []).map B, 0, ()) = _ := hy2
    have hcode : ∀ z, (parse_Parse.t (B l)).run = z ↔ (T.ite (!flagM seen cCam) (T.opt (parse_bad 8) fun y => T.ret (ZS, y)) (T.opt (scene_Check s) fun y => T.ite y.isFault (T.ret (ZS, ErrD.fault y.faultC y.faultL y.faultE)) (T.ret (s, ErrD.nil)))).run = z := fun z => by
      unfold parse_Parse.t
      rw [tr_no hsz, tr_opt, Lines_eq l h, Option.bind_some, tr_opt]
      have : parse_Parse.l0 (ZS, .nil, ([], [], [], 0, [], ((0, 0, 0), (0, 0, 0), (0, 0, 0), 0, 0, 0), 1, 512, [], 0, [], ()), ln (sp l []) 0, ((ln (sp l []) 0).length : Int), 0, ()) = _ := hy1
      show ((parse_Parse.l0 (ZS, _)).bind _ = _) ↔ _
      rw [hy1, Option.bind_some]
      dsimp only
      rw [tr_yes (b := exEq (Ex.exit 0) (Ex.exit 0)) rfl]
      simp only [List.take_length]
      exact Iff.rfl
    have hrefe : ∀ z, (ref24_Parse.t (B l)).run = z ↔ (T.ite (!flagM seen cCam) (T.ret (ZS, (9, 8, 0))) (T.opt (ref22_Check s) fun y_1 => T.ite (!(y_1.1 == (0 : Int) && (y_1.2.1 == (0 : Int) && y_1.2.2 == (0 : Int)))) (T.ret (ZS, y_1)) (T.ret (s, (0 : Int), (0 : Int), (0 : Int))))).run = z := fun z => by
      unfold ref24_Parse.t
      rw [tr_opt, refSplit_eq l h, Option.bind_some, tr_opt]
      show ((ref24_Parse.l0 (ZS, _)).bind _ = _) ↔ _
      rw [hy2, Option.bind_some]
      dsimp only
      rw [tr_yes (b := exEq (Ex.exit 0) (Ex.exit 0)) rfl]
    cases hf : flagM seen cCam with
    | false =>
      refine ⟨some (9, 8, 0), ZS, fun w hw => by cases hw; exact ⟨by decide, by decide⟩, lightZ, ?_, ?_⟩
      · refine (hcode _).2 ?_
        rw [hf, tr_yes (b := !false) rfl, tr_opt, bad_eq (by decide), Option.bind_some, tr_ret]
      · refine (hrefe _).2 ?_
        rw [hf, tr_yes (b := !false) rfl, tr_ret]
        rfl
    | true =>
      cases ho : wr s with
      | none =>
        refine ⟨none, s, fun w hw => (by cases hw), hb, ?_, ?_⟩
        · refine (hcode _).2 ?_
          rw [hf, tr_no (b := !true) rfl, tr_opt, Check_eq s hb, ho, Option.bind_some, tr_no (b := (mkErr none).isFault) rfl, tr_ret]
          rfl
        · refine (hrefe _).2 ?_
          rw [hf, tr_no (b := !true) rfl, tr_opt, RCheck_eq s hb, ho, Option.bind_some, tr_no (by rfl), tr_ret]
          rfl
      | some w =>
        have hw := wr_ok ho
        refine ⟨some w, ZS, fun v hv => by cases hv; exact ⟨by rcases hw.1 with h | h <;> omega, hw.2⟩, lightZ, ?_, ?_⟩
        · refine (hcode _).2 ?_
          rw [hf, tr_no (b := !true) rfl, tr_opt, Check_eq s hb, ho, Option.bind_some, tr_yes (b := (mkErr (some w)).isFault) rfl, tr_ret]
          rfl
        · refine (hrefe _).2 ?_
          rw [hf, tr_no (b := !true) rfl, tr_opt, RCheck_eq s hb, ho, Option.bind_some, tr_yes hw.go, tr_ret]

theorem ParseReads_law (l : List UInt8) : (law24_ParseReads.t (B l)).run = some true := by
  unfold law24_ParseReads.t
  by_cases hs : l.length > 6000
  · rw [tr_yes (by rw [B_size]; exact decide_eq_true (by omega)), tr_ret]
  rw [tr_no (by rw [B_size]; exact decide_eq_false (by omega))]
  obtain ⟨o, s, ho, hb, hc, hr⟩ := Read_eq l (by omega)
  rw [tr_opt, hc, Option.bind_some, tr_opt, hr, Option.bind_some, tr_yes (b := true) rfl, tr_opt]
  dsimp only
  rw [same_eq o ho, Option.bind_some, tr_yes (b := true) rfl, tr_opt, Same_refl s hb, Option.bind_some, tr_ret]

theorem ParseReads_all (x : dens [.str]) (_ : insAll [.str] x) : (law24_ParseReads.t x).run = some true := by
  have key : ∀ s : ByteArray, (law24_ParseReads.t s).run = some true := fun s => by
    have := ParseReads_law s.data.toList
    rw [B_self] at this
    exact this
  exact key x
end Go.Proofs.Pen
