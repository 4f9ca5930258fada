/- A part of the proof that the law ParseMoved is true of every input: models of the functions that the law reaches, and what holds of them. -/
import Derived.Test.YtncgifjccpngfaaGreatDoorPenKit0
import Derived.Test.YtncgifjccpngfaaGreatDoorPenKit1
import Derived.Test.YtncgifjccpngfaaGreatDoorPenKit2
import Derived.Test.YtncgifjccpngfaaGreatDoorPenKit3
import Derived.Test.YtncgifjccpngfaaGreatDoorPenParseMoved4
import Derived.Test.YtncgifjccpngfaaGreatDoorPenParseMoved5
import Derived.Test.YtncgifjccpngfaaGreatDoorPenParseMoved6
namespace Go.Proofs.Pen
open Go Go.Proofs

theorem dg_plain {d : Nat} (h : d < 10) : isB (dg d) = false ∧ dg d ≠ 35 ∧ dg d ≠ 10 := by
  have h1 := dg_ne h (c := 32) (by decide)
  have h2 := dg_ne h (c := 9) (by decide)
  exact ⟨by simp [isB, h1, h2], dg_ne h (by decide), dg_ne h (by decide)⟩
theorem dgs_plain {f n : Nat} {b : UInt8} (h : b ∈ dgs f n) : isB b = false ∧ b ≠ 35 ∧ b ≠ 10 := by
  obtain ⟨d, hd, rfl⟩ := mem_dgs h
  exact dg_plain hd
theorem Wx_good (k : Int) : wordG (Wx k) := by
  refine ⟨?_, fun b hb => dgs_plain hb⟩
  obtain ⟨d, l, _, e⟩ := dgs_ne (f := 9) (n := k.toNat)
  unfold Wx
  rw [e]
  simp
theorem Tx_good (k : Int) : wordG (Tx k) := by
  constructor
  · obtain ⟨d, l, _, e⟩ := dgs_ne (f := 9) (n := k.natAbs / 1024)
    unfold Tx Nx
    rw [e]
    simp
  · intro b hb
    unfold Tx Nx at hb
    rcases List.mem_append.1 hb with hb | hb
    · split at hb
      · have : b = 45 := by simpa using hb
        subst this; decide
      · simp at hb
    · rcases List.mem_append.1 hb with hb | hb
      · exact dgs_plain hb
      · split at hb
        · simp at hb
        · rcases List.mem_cons.1 hb with rfl | hb
          · decide
          · unfold fx at hb
            obtain ⟨d, hd, rfl⟩ := List.mem_map.1 hb
            exact dg_plain (fr_lt 10 _ (Nat.mod_lt _ (by decide)) d hd)
theorem tx3_good (p : W3) : ∀ w ∈ tx3 p, wordG w := by
  intro w hw
  simp only [tx3, List.mem_cons, List.not_mem_nil, or_false] at hw
  rcases hw with rfl | rfl | rfl <;> exact Tx_good _
theorem all_app {a b : List (List UInt8)} (ha : ∀ w ∈ a, wordG w) (hb : ∀ w ∈ b, wordG w) : ∀ w ∈ a ++ b, wordG w := fun w hw => (List.mem_append.1 hw).elim (ha w) (hb w)
theorem all_cons {x : List UInt8} {b : List (List UInt8)} (ha : wordG x) (hb : ∀ w ∈ b, wordG w) : ∀ w ∈ x :: b, wordG w := fun w hw => (List.mem_cons.1 hw).elim (fun e => e ▸ ha) (hb w)
theorem all_nil : ∀ w ∈ ([] : List (List UInt8)), wordG w := fun w hw => by simp at hw
theorem sMat_good : wordG sMat := ⟨by decide, by decide⟩
theorem sTri_good : wordG sTri := ⟨by decide, by decide⟩
theorem sLight_good : wordG sLight := ⟨by decide, by decide⟩
theorem sSky_good : wordG sSky := ⟨by decide, by decide⟩
theorem sCell_good : wordG sCell := ⟨by decide, by decide⟩
theorem sCam_good : wordG sCam := ⟨by decide, by decide⟩
theorem sFil_good : wordG sFil := ⟨by decide, by decide⟩
theorem PL_good (s : ScT) : ∀ l ∈ PL s, lineG l := by
  intro l hl
  simp only [PL, List.mem_append, List.mem_map, List.mem_cons, List.not_mem_nil, or_false] at hl
  rcases hl with ((((⟨m, _, rfl⟩ | ⟨m, _, rfl⟩) | ⟨m, _, rfl⟩) | hl) | ⟨m, _, rfl⟩) | rfl | rfl
  · exact ⟨sMat_good, all_app (all_app (tx3_good _) (tx3_good _)) (all_cons (Tx_good _) all_nil)⟩
  · exact ⟨sTri_good, all_cons (Wx_good _) (all_app (all_app (tx3_good _) (tx3_good _)) (tx3_good _))⟩
  · exact ⟨sLight_good, all_cons (Wx_good _) (tx3_good _)⟩
  · unfold skyP at hl
    split at hl
    · have : l = (sSky, [Wx s.2.2.2.1]) := by simpa using hl
      subst this
      exact ⟨sSky_good, all_cons (Wx_good _) all_nil⟩
    · simp at hl
  · exact ⟨sCell_good, tx3_good _⟩
  · exact ⟨sCam_good, all_app (all_app (all_app (tx3_good _) (tx3_good _)) (tx3_good _)) (all_cons (Tx_good _) (all_cons (Tx_good _) (all_cons (Tx_good _) all_nil)))⟩
  · exact ⟨sFil_good, all_cons (Wx_good _) (all_cons (Tx_good _) all_nil)⟩

theorem sp_flat : ∀ l : List LineT, (∀ x ∈ l, lineG x) → sp (flat l) [] = l.map jn ++ [[]]
  | [], _ => by simp [flat, sp]
  | x :: l, h => by
    have e : flat (x :: l) = jn x ++ 10 :: flat l := by simp [flat]
    rw [e, sp_first (jn_no (h x (by simp)) (.inr rfl)), sp_flat l (fun y hy => h y (by simp [hy]))]
    simp

def mv (k : Int) (x : List UInt8) : List UInt8 :=
  if k = 1 then [32, 9] ++ x else if k = 2 then [10, 35, 32, 97, 32, 114, 101, 109, 97, 114, 107, 10] ++ x else if k = 3 then [10, 10] ++ x else if k = 4 then x ++ [32, 35, 32, 97, 110, 100, 32, 115, 111, 32, 111, 110] else x
theorem lwd_line {x : List UInt8} {w : List ByteArray} {t : List (List UInt8)} (h : ws x = w) (h0 : w.length ≠ 0) : lwd (x :: t) = w :: lwd t := by
  rw [lwd_cons, h, if_neg h0]
theorem lwd_none {x : List UInt8} {t : List (List UInt8)} (h : ws x = []) : lwd (x :: t) = lwd t := by
  rw [lwd_cons, h]
  rfl
theorem lws_pos (l : LineT) : (lws l).length ≠ 0 := by simp [lws]
theorem lwd_mv (k : Int) {l : LineT} (h : lineG l) (r : List UInt8) : lwd (sp (mv k (jn l) ++ 10 :: r) []) = lws l :: lwd (sp r []) := by
  have hn := jn_no h (b := 10) (.inr rfl)
  unfold mv
  split
  · have h2 : (10 : UInt8) ∉ [32, 9] ++ jn l := fun hm => (List.mem_append.1 hm).elim (by decide) hn
    rw [sp_first h2, List.nil_append, lwd_line (ws_lead h) (lws_pos l)]
  split
  · have e : [10, 35, 32, 97, 32, 114, 101, 109, 97, 114, 107, 10] ++ jn l ++ 10 :: r = [] ++ 10 :: ([35, 32, 97, 32, 114, 101, 109, 97, 114, 107] ++ 10 :: (jn l ++ 10 :: r)) := by simp
    rw [e, sp_first (by simp), sp_first (by decide), sp_first hn]
    simp only [List.nil_append]
    rw [lwd_none ws_nil, lwd_none (ws_remark _), lwd_line (ws_jn h) (lws_pos l)]
  split
  · have e : [10, 10] ++ jn l ++ 10 :: r = [] ++ 10 :: ([] ++ 10 :: (jn l ++ 10 :: r)) := by simp
    rw [e, sp_first (by simp), sp_first (by simp), sp_first hn]
    simp only [List.nil_append]
    rw [lwd_none ws_nil, lwd_none ws_nil, lwd_line (ws_jn h) (lws_pos l)]
  split
  · have h2 : (10 : UInt8) ∉ jn l ++ [32] ++ 35 :: [32, 97, 110, 100, 32, 115, 111, 32, 111, 110] := by
      intro hm
      rcases List.mem_append.1 hm with hm | hm
      · exact (List.mem_append.1 hm).elim hn (by decide)
      · revert hm; decide
    have e : jn l ++ [32, 35, 32, 97, 110, 100, 32, 115, 111, 32, 111, 110] = jn l ++ [32] ++ 35 :: [32, 97, 110, 100, 32, 115, 111, 32, 111, 110] := by simp
    rw [e, sp_first h2, List.nil_append, lwd_line (ws_tail h _) (lws_pos l)]
  · rw [sp_first hn, List.nil_append, lwd_line (ws_jn h) (lws_pos l)]
theorem lwd_mv_nil (k : Int) (r : List UInt8) : lwd (sp (mv k [] ++ 10 :: r) []) = lwd (sp r []) := by
  unfold mv
  split
  · rw [sp_first (by decide), List.nil_append, lwd_none (by decide)]
  split
  · have e : [10, 35, 32, 97, 32, 114, 101, 109, 97, 114, 107, 10] ++ [] ++ 10 :: r = [] ++ 10 :: ([35, 32, 97, 32, 114, 101, 109, 97, 114, 107] ++ 10 :: ([] ++ 10 :: r)) := by simp
    rw [e, sp_first (by simp), sp_first (by decide), sp_first (by simp)]
    simp only [List.nil_append]
    rw [lwd_none ws_nil, lwd_none (ws_remark _), lwd_none ws_nil]
  split
  · have e : [10, 10] ++ [] ++ 10 :: r = [] ++ 10 :: ([] ++ 10 :: ([] ++ 10 :: r)) := by simp
    rw [e, sp_first (by simp), sp_first (by simp), sp_first (by simp)]
    simp only [List.nil_append]
    rw [lwd_none ws_nil, lwd_none ws_nil, lwd_none ws_nil]
  split
  · rw [sp_first (by decide), List.nil_append, lwd_none (by decide)]
  · rw [sp_first (by simp), List.nil_append, lwd_none ws_nil]
end Go.Proofs.Pen

namespace Go.Proofs.Pen
open Go Go.Proofs

def gv (l : List Int) (k : Nat) : Int := match l[k]? with
  | some y => y.tmod 5
  | none => 0
def moved (l : List Int) : List (List UInt8) → Nat → List UInt8
  | [], _ => []
  | x :: r, k => mv (gv l k) x ++ 10 :: moved l r (k + 1)
theorem lwd_moved (l : List Int) : ∀ (ls : List LineT) (k : Nat), (∀ x ∈ ls, lineG x) → lwd (sp (moved l (ls.map jn ++ [[]]) k) []) = ls.map lws
  | [], k, _ => by
    have e : moved l (([] : List LineT).map jn ++ [[]]) k = mv (gv l k) [] ++ 10 :: [] := rfl
    rw [e, lwd_mv_nil]
    decide
  | x :: ls, k, h => by
    have e : moved l ((x :: ls).map jn ++ [[]]) k = mv (gv l k) (jn x) ++ 10 :: moved l (ls.map jn ++ [[]]) (k + 1) := rfl
    rw [e, lwd_mv _ (h x (by simp)), lwd_moved l ls (k + 1) (fun y hy => h y (by simp [hy]))]
    rfl
theorem mv_len (k : Int) (x : List UInt8) : (mv k x).length ≤ x.length + 12 := by
  unfold mv
  repeat' split
  all_goals simp
theorem mv_round (s : ScT) (l : List Int) (X : List (List UInt8)) (k : Nat) (hk : k < X.length) (hn : X.length ≤ 1000) (u : List UInt8) (hu : u.length ≤ 400000) (hx : X[k].length ≤ 400) :
    (law24_ParseMoved.t0 (l, s, X.map B, B u, (k : Int), ())).run = some (.normal, l, s, X.map B, B (u ++ (mv (gv l k) X[k] ++ [10])), ((k + 1 : Nat) : Int), ()) := by
  have hW : W ((k : Int) + 1) = ((k + 1 : Nat) : Int) := by rw [W_id (by omega) (by omega)]; omega
  have m1 : ByteArray.mk #[32, 9] = B [32, 9] := rfl
  have m2 : ByteArray.mk #[10, 35, 32, 97, 32, 114, 101, 109, 97, 114, 107, 10] = B [10, 35, 32, 97, 32, 114, 101, 109, 97, 114, 107, 10] := rfl
  have m3 : ByteArray.mk #[10, 10] = B [10, 10] := rfl
  have m4 : ByteArray.mk #[32, 35, 32, 97, 110, 100, 32, 115, 111, 32, 111, 110] = B [32, 35, 32, 97, 110, 100, 32, 115, 111, 32, 111, 110] := rfl
  have hg : lget (X.map B) (k : Int) = some (B X[k]) := by rw [lget_nat (X.map B) (by simpa using hk), List.getElem_map]
  have hlt : decide ((k : Int) < ((X.map B).length : Int)) = true := by rw [decide_eq_true_eq, List.length_map]; omega
  unfold law24_ParseMoved.t0
  dsimp only
  simp only [m1, m2, m3, m4, B10, hW, B_app, B_size]
  rw [tr_yes hlt]
  by_cases hl : k < l.length
  · have hgv : gv l k = l[k].tmod 5 := by unfold gv; rw [List.getElem?_eq_getElem hl]
    rw [tr_yes (decide_eq_true (by omega)), tr_opt, lget_nat l hl, Option.bind_some]
    by_cases h1 : l[k].tmod 5 = 1
    · rw [tr_yes (beq_iff_eq.2 h1), tr_no (big_no (by simp; omega)), tr_opt, hg, Option.bind_some]
      simp only [B_app, B_size]
      rw [tr_no (big_no (by simp; omega)), tr_no (by rw [h1]; rfl), tr_no (big_no (by simp; omega)), tr_ret, hgv, h1]
      simp [mv]
    rw [tr_no (beq_eq_false_iff_ne.2 h1)]
    by_cases h2 : l[k].tmod 5 = 2
    · rw [tr_yes (beq_iff_eq.2 h2), tr_no (big_no (by simp; omega)), tr_opt, hg, Option.bind_some]
      simp only [B_app, B_size]
      rw [tr_no (big_no (by simp; omega)), tr_no (by rw [h2]; rfl), tr_no (big_no (by simp; omega)), tr_ret, hgv, h2]
      simp [mv]
    rw [tr_no (beq_eq_false_iff_ne.2 h2)]
    by_cases h3 : l[k].tmod 5 = 3
    · rw [tr_yes (beq_iff_eq.2 h3), tr_no (big_no (by simp; omega)), tr_opt, hg, Option.bind_some]
      simp only [B_app, B_size]
      rw [tr_no (big_no (by simp; omega)), tr_no (by rw [h3]; rfl), tr_no (big_no (by simp; omega)), tr_ret, hgv, h3]
      simp [mv]
    rw [tr_no (beq_eq_false_iff_ne.2 h3), tr_opt, hg, Option.bind_some]
    simp only [B_app, B_size]
    rw [tr_no (big_no (by omega))]
    by_cases h4 : l[k].tmod 5 = 4
    · rw [tr_yes (beq_iff_eq.2 h4), tr_no (big_no (by simp; omega)), tr_no (big_no (by simp; omega)), tr_ret, hgv, h4]
      simp [mv]
    · rw [tr_no (beq_eq_false_iff_ne.2 h4), tr_no (big_no (by simp; omega)), tr_ret, hgv]
      simp [mv, h1, h2, h3, h4]
  · have hgv : gv l k = 0 := by unfold gv; rw [List.getElem?_eq_none (by omega)]
    rw [tr_no (decide_eq_false (by omega)), tr_no (by rfl), tr_no (by rfl), tr_no (by rfl), tr_opt, hg, Option.bind_some]
    simp only [B_app, B_size]
    rw [tr_no (big_no (by omega)), tr_no (by rfl), tr_no (big_no (by simp; omega)), tr_ret, hgv]
    simp [mv]

theorem mv_loop (s : ScT) (l : List Int) (X : List (List UInt8)) (hn : X.length ≤ 1000) (hx : ∀ x ∈ X, x.length ≤ 300) : ∀ (c k m : Nat) (u : List UInt8), k + c = X.length → c < m → u.length + 313 * c ≤ 400000 →
    (iterT law24_ParseMoved.t0 m (l, s, X.map B, B u, (k : Int), ())).run = some (.exit 0, l, s, X.map B, B (u ++ moved l (X.drop k) k), (X.length : Int), ())
  | _, _, 0, _, _, hm, _ => absurd hm (Nat.not_lt_zero _)
  | 0, k, m + 1, u, hk, _, _ => by
    have hk : k = X.length := by omega
    subst hk
    have e : (law24_ParseMoved.t0 (l, s, X.map B, B u, (X.length : Int), ())).run = some (.exit 0, l, s, X.map B, B u, (X.length : Int), ()) := by
      unfold law24_ParseMoved.t0
      dsimp only
      rw [tr_no (by simp), tr_ret]
    rw [iter_stop (by simp) e, List.drop_length]
    simp [moved]
  | c + 1, k, m + 1, u, hk, hm, hu => by
    have hlt : k < X.length := by omega
    have h1 := mv_round s l X k hlt hn u (by omega) (by have := hx _ (List.getElem_mem hlt); omega)
    have h2 := hx _ (List.getElem_mem hlt)
    have h3 := mv_len (gv l k) X[k]
    rw [iter_go h1, mv_loop s l X hn hx c (k + 1) m _ (by omega) (by omega) (by simp; omega), List.drop_eq_getElem_cons hlt, moved]
    simp only [List.append_assoc, List.singleton_append]
end Go.Proofs.Pen

namespace Go.Proofs.Pen
open Go Go.Proofs

theorem kv_Tx {k : Int} (h : inT k) : kv (B (Tx k)) = some k := by
  unfold kv
  rw [Number_back h.1 h.2]
theorem Wx_Tx {k : Int} (h : 0 ≤ k) : Wx k = Tx (1024 * k) := by
  obtain ⟨n, rfl⟩ : ∃ n : Nat, k = n := ⟨k.toNat, by omega⟩
  have e : ((1024 : Int) * (n : Int)).natAbs = 1024 * n := by omega
  unfold Wx Tx Nx
  rw [if_neg (by omega), e, if_pos (by omega), Nat.mul_div_cancel_left _ (by decide)]
  simp
theorem num_Tx {k : Int} (h : inT k) : num1 false (B (Tx k)) = some k := by
  unfold num1
  rw [kv_Tx h]
  rfl
theorem num_Wx {k : Int} (h : 0 ≤ k) (h1 : k ≤ 1000000) : num1 true (B (Wx k)) = some k := by
  unfold num1
  rw [Wx_Tx h, kv_Tx ⟨by omega, by omega⟩]
  simp
theorem nums_Tx (wh : Int) : ∀ (ks : List Int) (i : Nat), wh ≤ i → (∀ k ∈ ks, inT k) → nums wh i (ks.map fun k => B (Tx k)) = some ks
  | [], _, _, _ => rfl
  | k :: ks, i, h, hk => by
    rw [List.map_cons, nums, decide_eq_false (by omega), num_Tx (hk k (by simp))]
    dsimp only
    rw [nums_Tx wh ks (i + 1) (by omega) (fun x hx => hk x (by simp [hx]))]
theorem nums_Wx {k : Int} (h : 0 ≤ k) (h1 : k ≤ 1000000) (ks : List Int) (hk : ∀ k ∈ ks, inT k) : nums 1 0 (B (Wx k) :: ks.map fun k => B (Tx k)) = some (k :: ks) := by
  rw [nums, decide_eq_true (by decide), num_Wx h h1]
  dsimp only
  rw [nums_Tx 1 ks 1 (by decide) hk]

def rdS (s : ScT) (seen : List (ByteArray × Bool)) (n0 : Int) (w0 : List ByteArray) (L : List (Int × List ByteArray)) (i : Nat) : ScT × ErrD × (List MatT × List TriT × List LitT × Int × List W3 × CamT × Int × Int × List (ByteArray × Bool) × Int × List ByteArray × Unit) × List (Int × List ByteArray) × Int × Int × Unit :=
  (ZS, .nil, (s.1, s.2.1, s.2.2.1, s.2.2.2.1, s.2.2.2.2.1, s.2.2.2.2.2.1, s.2.2.2.2.2.2.1, s.2.2.2.2.2.2.2, seen, n0, w0, ()), L, (L.length : Int), (i : Int), ())

theorem mats_read (seen : List (ByteArray × Bool)) : ∀ (ms : List MatT) (done rest : List (Int × List ByteArray)) (L : List (Int × List ByteArray)) (s : ScT) (n0 : Int) (w0 : List ByteArray) (m : Nat),
    L = done ++ rest → L.length ≤ 6001 → (∀ x ∈ ms, matG x) → s.1.length + ms.length ≤ 6001 → (∃ r, rest.map (·.2) = ms.map (fun x => lws (matP x)) ++ r) →
    ∃ n1 w1, (iterT parse_Parse.t0 (ms.length + m) (rdS s seen n0 w0 L done.length)).run = (iterT parse_Parse.t0 m (rdS (s.1 ++ ms, s.2) seen n1 w1 L (done.length + ms.length))).run
  | [], done, rest, L, s, n0, w0, m, _, _, _, _, _ => ⟨n0, w0, by simp⟩
  | x :: ms, done, rest, L, s, n0, w0, m, hL, hn, hg, hs, ⟨r, hr⟩ => by
    cases rest with
    | nil => simp at hr
    | cons y rest =>
      simp only [List.map_cons, List.cons_append, List.cons.injEq] at hr
      obtain ⟨hy, hr⟩ := hr
      obtain ⟨num, w⟩ := y
      have hy : w = lws (matP x) := hy
      subst hy
      have hi : done.length < L.length := by rw [hL]; simp
      have hget : L[done.length] = (num, lws (matP x)) := by subst hL; simp
      obtain ⟨h1, h2, h3⟩ := matG_in (hg x (by simp))
      have hk : nums 0 0 ([x.1.1, x.1.2.1, x.1.2.2, x.2.1.1, x.2.1.2.1, x.2.1.2.2, x.2.2].map fun k => B (Tx k)) = some [x.1.1, x.1.2.1, x.1.2.2, x.2.1.1, x.2.1.2.1, x.2.1.2.2, x.2.2] := nums_Tx 0 _ 0 (by decide) (by
        intro k hk
        simp only [List.mem_cons, List.not_mem_nil, or_false] at hk
        rcases hk with rfl | rfl | rfl | rfl | rfl | rfl | rfl
        · exact h1.1
        · exact h1.2.1
        · exact h1.2.2
        · exact h2.1
        · exact h2.2.1
        · exact h2.2.2
        · exact h3)
      have st := code_mat s seen n0 w0 L done.length hi hn num _ hget _ _ _ _ _ _ _ hk (by simp at hs; omega)
      obtain ⟨n1, w1, ih⟩ := mats_read seen ms (done ++ [(num, lws (matP x))]) rest L (s.1 ++ [x], s.2) num (lws (matP x)) m (by rw [hL]; simp) hn (fun z hz => hg z (by simp [hz])) (by simp at hs ⊢; omega) ⟨r, hr⟩
      refine ⟨n1, w1, ?_⟩
      have e : (x :: ms).length + m = (ms.length + m) + 1 := by simp; omega
      rw [e]
      have st' : (parse_Parse.t0 (rdS s seen n0 w0 L done.length)).run = some (.normal, rdS (s.1 ++ [x], s.2) seen num (lws (matP x)) L (done.length + 1)) := st
      rw [iter_go st']
      have hd : (done ++ [(num, lws (matP x))]).length = done.length + 1 := by simp
      rw [hd] at ih
      rw [ih]
      have e1 : (s.1 ++ [x]) ++ ms = s.1 ++ x :: ms := by simp
      have e2 : done.length + 1 + ms.length = done.length + (x :: ms).length := by simp; omega
      dsimp only
      rw [e1, e2]
end Go.Proofs.Pen

namespace Go.Proofs.Pen
open Go Go.Proofs

theorem tris_read (seen : List (ByteArray × Bool)) {n : Int} : ∀ (ms : List TriT) (done rest : List (Int × List ByteArray)) (L : List (Int × List ByteArray)) (s : ScT) (n0 : Int) (w0 : List ByteArray) (m : Nat),
    L = done ++ rest → L.length ≤ 6001 → (∀ x ∈ ms, triG n x) → n ≤ 1000000 → s.2.1.length + ms.length ≤ 6001 → (∃ r, rest.map (·.2) = ms.map (fun x => lws (triP x)) ++ r) →
    ∃ n1 w1, (iterT parse_Parse.t0 (ms.length + m) (rdS s seen n0 w0 L done.length)).run = (iterT parse_Parse.t0 m (rdS (s.1, s.2.1 ++ ms, s.2.2) seen n1 w1 L (done.length + ms.length))).run
  | [], done, rest, L, s, n0, w0, m, _, _, _, _, _, _ => ⟨n0, w0, by simp⟩
  | x :: ms, done, rest, L, s, n0, w0, m, hL, hn, hg, hnn, hs, ⟨r, hr⟩ => by
    cases rest with
    | nil => simp at hr
    | cons y rest =>
      simp only [List.map_cons, List.cons_append, List.cons.injEq] at hr
      obtain ⟨hy, hr⟩ := hr
      obtain ⟨num, w⟩ := y
      have hy : w = lws (triP x) := hy
      subst hy
      have hi : done.length < L.length := by rw [hL]; simp
      have hget : L[done.length] = (num, lws (triP x)) := by subst hL; simp
      have hgx := hg x (by simp)
      obtain ⟨h1, h2, h3⟩ := triG_in hgx
      have hk : nums 1 0 (B (Wx x.2.2.2) :: [x.1.1, x.1.2.1, x.1.2.2, x.2.1.1, x.2.1.2.1, x.2.1.2.2, x.2.2.1.1, x.2.2.1.2.1, x.2.2.1.2.2].map fun k => B (Tx k)) = some (x.2.2.2 :: [x.1.1, x.1.2.1, x.1.2.2, x.2.1.1, x.2.1.2.1, x.2.1.2.2, x.2.2.1.1, x.2.2.1.2.1, x.2.2.1.2.2]) := nums_Wx hgx.1 (by have := hgx.2.1; omega) _ (by
        intro k hk
        simp only [List.mem_cons, List.not_mem_nil, or_false] at hk
        rcases hk with rfl | rfl | rfl | rfl | rfl | rfl | rfl | rfl | rfl
        · exact h1.1
        · exact h1.2.1
        · exact h1.2.2
        · exact h2.1
        · exact h2.2.1
        · exact h2.2.2
        · exact h3.1
        · exact h3.2.1
        · exact h3.2.2
      )
      have st := code_tri s seen n0 w0 L done.length hi hn num _ hget _ _ _ _ _ _ _ _ _ _ hk (by simp at hs; omega)
      obtain ⟨n1, w1, ih⟩ := tris_read seen ms (done ++ [(num, lws (triP x))]) rest L (s.1, s.2.1 ++ [x], s.2.2) num (lws (triP x)) m (by rw [hL]; simp) hn (fun z hz => hg z (by simp [hz])) hnn (by simp at hs ⊢; omega) ⟨r, hr⟩
      refine ⟨n1, w1, ?_⟩
      have e : (x :: ms).length + m = (ms.length + m) + 1 := by simp; omega
      rw [e]
      have st' : (parse_Parse.t0 (rdS s seen n0 w0 L done.length)).run = some (.normal, rdS (s.1, s.2.1 ++ [x], s.2.2) seen num (lws (triP x)) L (done.length + 1)) := st
      rw [iter_go st']
      have hd : (done ++ [(num, lws (triP x))]).length = done.length + 1 := by simp
      rw [hd] at ih
      rw [ih]
      have e1 : (s.2.1 ++ [x]) ++ ms = s.2.1 ++ x :: ms := by simp
      have e2 : done.length + 1 + ms.length = done.length + (x :: ms).length := by simp; omega
      dsimp only
      rw [e1, e2]
theorem lits_read (seen : List (ByteArray × Bool)) {n : Int} : ∀ (ms : List LitT) (done rest : List (Int × List ByteArray)) (L : List (Int × List ByteArray)) (s : ScT) (n0 : Int) (w0 : List ByteArray) (m : Nat),
    L = done ++ rest → L.length ≤ 6001 → (∀ x ∈ ms, litG n x) → n ≤ 1000000 → s.2.2.1.length + ms.length ≤ 6001 → (∃ r, rest.map (·.2) = ms.map (fun x => lws (litP x)) ++ r) →
    ∃ n1 w1, (iterT parse_Parse.t0 (ms.length + m) (rdS s seen n0 w0 L done.length)).run = (iterT parse_Parse.t0 m (rdS (s.1, s.2.1, s.2.2.1 ++ ms, s.2.2.2) seen n1 w1 L (done.length + ms.length))).run
  | [], done, rest, L, s, n0, w0, m, _, _, _, _, _, _ => ⟨n0, w0, by simp⟩
  | x :: ms, done, rest, L, s, n0, w0, m, hL, hn, hg, hnn, hs, ⟨r, hr⟩ => by
    cases rest with
    | nil => simp at hr
    | cons y rest =>
      simp only [List.map_cons, List.cons_append, List.cons.injEq] at hr
      obtain ⟨hy, hr⟩ := hr
      obtain ⟨num, w⟩ := y
      have hy : w = lws (litP x) := hy
      subst hy
      have hi : done.length < L.length := by rw [hL]; simp
      have hget : L[done.length] = (num, lws (litP x)) := by subst hL; simp
      have hgx := hg x (by simp)
      have h1 : in3T x.2 := in3T_of hgx.2.2 (by omega) (by omega)
      have hk : nums 1 0 (B (Wx x.1) :: [x.2.1, x.2.2.1, x.2.2.2].map fun k => B (Tx k)) = some (x.1 :: [x.2.1, x.2.2.1, x.2.2.2]) := nums_Wx hgx.1 (by have := hgx.2.1; omega) _ (by
        intro k hk
        simp only [List.mem_cons, List.not_mem_nil, or_false] at hk
        rcases hk with rfl | rfl | rfl
        · exact h1.1
        · exact h1.2.1
        · exact h1.2.2
      )
      have st := code_light s seen n0 w0 L done.length hi hn num _ hget _ _ _ _ hk (by simp at hs; omega)
      obtain ⟨n1, w1, ih⟩ := lits_read seen ms (done ++ [(num, lws (litP x))]) rest L (s.1, s.2.1, s.2.2.1 ++ [x], s.2.2.2) num (lws (litP x)) m (by rw [hL]; simp) hn (fun z hz => hg z (by simp [hz])) hnn (by simp at hs ⊢; omega) ⟨r, hr⟩
      refine ⟨n1, w1, ?_⟩
      have e : (x :: ms).length + m = (ms.length + m) + 1 := by simp; omega
      rw [e]
      have st' : (parse_Parse.t0 (rdS s seen n0 w0 L done.length)).run = some (.normal, rdS (s.1, s.2.1, s.2.2.1 ++ [x], s.2.2.2) seen num (lws (litP x)) L (done.length + 1)) := st
      rw [iter_go st']
      have hd : (done ++ [(num, lws (litP x))]).length = done.length + 1 := by simp
      rw [hd] at ih
      rw [ih]
      have e1 : (s.2.2.1 ++ [x]) ++ ms = s.2.2.1 ++ x :: ms := by simp
      have e2 : done.length + 1 + ms.length = done.length + (x :: ms).length := by simp; omega
      dsimp only
      rw [e1, e2]
theorem cels_read (seen : List (ByteArray × Bool)) : ∀ (ms : List W3) (done rest : List (Int × List ByteArray)) (L : List (Int × List ByteArray)) (s : ScT) (n0 : Int) (w0 : List ByteArray) (m : Nat),
    L = done ++ rest → L.length ≤ 6001 → (∀ x ∈ ms, in3 x 0 67108863 = true) → s.2.2.2.2.1.length + ms.length ≤ 6001 → (∃ r, rest.map (·.2) = ms.map (fun x => lws (celP x)) ++ r) →
    ∃ n1 w1, (iterT parse_Parse.t0 (ms.length + m) (rdS s seen n0 w0 L done.length)).run = (iterT parse_Parse.t0 m (rdS (s.1, s.2.1, s.2.2.1, s.2.2.2.1, s.2.2.2.2.1 ++ ms, s.2.2.2.2.2) seen n1 w1 L (done.length + ms.length))).run
  | [], done, rest, L, s, n0, w0, m, _, _, _, _, _ => ⟨n0, w0, by simp⟩
  | x :: ms, done, rest, L, s, n0, w0, m, hL, hn, hg, hs, ⟨r, hr⟩ => by
    cases rest with
    | nil => simp at hr
    | cons y rest =>
      simp only [List.map_cons, List.cons_append, List.cons.injEq] at hr
      obtain ⟨hy, hr⟩ := hr
      obtain ⟨num, w⟩ := y
      have hy : w = lws (celP x) := hy
      subst hy
      have hi : done.length < L.length := by rw [hL]; simp
      have hget : L[done.length] = (num, lws (celP x)) := by subst hL; simp
      have hgx := hg x (by simp)
      have h1 : in3T x := in3T_of hgx (by omega) (by omega)
      have hk : nums 0 0 ([x.1, x.2.1, x.2.2].map fun k => B (Tx k)) = some [x.1, x.2.1, x.2.2] := nums_Tx 0 _ 0 (by decide) (by
        intro k hk
        simp only [List.mem_cons, List.not_mem_nil, or_false] at hk
        rcases hk with rfl | rfl | rfl
        · exact h1.1
        · exact h1.2.1
        · exact h1.2.2
      )
      have st := code_cell s seen n0 w0 L done.length hi hn num _ hget _ _ _ hk (by simp at hs; omega)
      obtain ⟨n1, w1, ih⟩ := cels_read seen ms (done ++ [(num, lws (celP x))]) rest L (s.1, s.2.1, s.2.2.1, s.2.2.2.1, s.2.2.2.2.1 ++ [x], s.2.2.2.2.2) num (lws (celP x)) m (by rw [hL]; simp) hn (fun z hz => hg z (by simp [hz])) (by simp at hs ⊢; omega) ⟨r, hr⟩
      refine ⟨n1, w1, ?_⟩
      have e : (x :: ms).length + m = (ms.length + m) + 1 := by simp; omega
      rw [e]
      have st' : (parse_Parse.t0 (rdS s seen n0 w0 L done.length)).run = some (.normal, rdS (s.1, s.2.1, s.2.2.1, s.2.2.2.1, s.2.2.2.2.1 ++ [x], s.2.2.2.2.2) seen num (lws (celP x)) L (done.length + 1)) := st
      rw [iter_go st']
      have hd : (done ++ [(num, lws (celP x))]).length = done.length + 1 := by simp
      rw [hd] at ih
      rw [ih]
      have e1 : (s.2.2.2.2.1 ++ [x]) ++ ms = s.2.2.2.2.1 ++ x :: ms := by simp
      have e2 : done.length + 1 + ms.length = done.length + (x :: ms).length := by simp; omega
      dsimp only
      rw [e1, e2]
end Go.Proofs.Pen

namespace Go.Proofs.Pen
open Go Go.Proofs

theorem sky_read (s : ScT) (seen : List (ByteArray × Bool)) (hse : flagM seen cSky = false) (done rest : List (Int × List ByteArray)) (L : List (Int × List ByteArray)) (n0 : Int) (w0 : List ByteArray) (m : Nat) (num z : Int)
    (hL : L = done ++ (num, lws (sSky, [Wx z])) :: rest) (hn : L.length ≤ 6001) (h0 : 0 ≤ z) (h1 : z ≤ 1000000) :
    ∃ n1 w1, (iterT parse_Parse.t0 (m + 1) (rdS s seen n0 w0 L done.length)).run = (iterT parse_Parse.t0 m (rdS (s.1, s.2.1, s.2.2.1, z, s.2.2.2.2) (mset seen cSky true) n1 w1 L (done.length + 1))).run := by
  have hi : done.length < L.length := by rw [hL]; simp
  have hget : L[done.length] = (num, lws (sSky, [Wx z])) := by subst hL; simp
  have hk : nums 1 0 (B (Wx z) :: ([] : List Int).map fun k => B (Tx k)) = some [z] := nums_Wx h0 h1 [] (by simp)
  have st := code_sky s seen n0 w0 L done.length hi hn num _ hget _ hk hse
  refine ⟨num, lws (sSky, [Wx z]), ?_⟩
  have st' : (parse_Parse.t0 (rdS s seen n0 w0 L done.length)).run = some (.normal, rdS (s.1, s.2.1, s.2.2.1, z, s.2.2.2.2) (mset seen cSky true) num (lws (sSky, [Wx z])) L (done.length + 1)) := st
  rw [iter_go st']

theorem cam_read (s : ScT) (seen : List (ByteArray × Bool)) (hse : flagM seen cCam = false) (done rest : List (Int × List ByteArray)) (L : List (Int × List ByteArray)) (n0 : Int) (w0 : List ByteArray) (m : Nat) (num : Int) (c : CamT)
    (hL : L = done ++ (num, lws (camP c)) :: rest) (hn : L.length ≤ 6001) (h1 : in3T c.1) (h2 : in3T c.2.1) (h3 : in3T c.2.2.1) (h4 : inT c.2.2.2.1) (h5 : inT c.2.2.2.2.1) (h6 : inT c.2.2.2.2.2) :
    ∃ n1 w1, (iterT parse_Parse.t0 (m + 1) (rdS s seen n0 w0 L done.length)).run = (iterT parse_Parse.t0 m (rdS (s.1, s.2.1, s.2.2.1, s.2.2.2.1, s.2.2.2.2.1, c, s.2.2.2.2.2.2) (mset seen cCam true) n1 w1 L (done.length + 1))).run := by
  have hi : done.length < L.length := by rw [hL]; simp
  have hget : L[done.length] = (num, lws (camP c)) := by subst hL; simp
  have hk : nums 0 0 ([c.1.1, c.1.2.1, c.1.2.2, c.2.1.1, c.2.1.2.1, c.2.1.2.2, c.2.2.1.1, c.2.2.1.2.1, c.2.2.1.2.2, c.2.2.2.1, c.2.2.2.2.1, c.2.2.2.2.2].map fun k => B (Tx k)) = some [c.1.1, c.1.2.1, c.1.2.2, c.2.1.1, c.2.1.2.1, c.2.1.2.2, c.2.2.1.1, c.2.2.1.2.1, c.2.2.1.2.2, c.2.2.2.1, c.2.2.2.2.1, c.2.2.2.2.2] := nums_Tx 0 _ 0 (by decide) (by
    intro k hk
    simp only [List.mem_cons, List.not_mem_nil, or_false] at hk
    rcases hk with rfl | rfl | rfl | rfl | rfl | rfl | rfl | rfl | rfl | rfl | rfl | rfl
    · exact h1.1
    · exact h1.2.1
    · exact h1.2.2
    · exact h2.1
    · exact h2.2.1
    · exact h2.2.2
    · exact h3.1
    · exact h3.2.1
    · exact h3.2.2
    · exact h4
    · exact h5
    · exact h6)
  have st := code_camera s seen n0 w0 L done.length hi hn num _ hget _ _ _ _ _ _ _ _ _ _ _ _ hk hse
  refine ⟨num, lws (camP c), ?_⟩
  have st' : (parse_Parse.t0 (rdS s seen n0 w0 L done.length)).run = some (.normal, rdS (s.1, s.2.1, s.2.2.1, s.2.2.2.1, s.2.2.2.2.1, c, s.2.2.2.2.2.2) (mset seen cCam true) num (lws (camP c)) L (done.length + 1)) := st
  rw [iter_go st']

theorem fil_read (s : ScT) (seen : List (ByteArray × Bool)) (hse : flagM seen cFil = false) (done rest : List (Int × List ByteArray)) (L : List (Int × List ByteArray)) (n0 : Int) (w0 : List ByteArray) (m : Nat) (num k h : Int)
    (hL : L = done ++ (num, lws (filP k h)) :: rest) (hn : L.length ≤ 6001) (h0 : 0 ≤ k) (h1 : k ≤ 1000000) (h2 : inT h) :
    ∃ n1 w1, (iterT parse_Parse.t0 (m + 1) (rdS s seen n0 w0 L done.length)).run = (iterT parse_Parse.t0 m (rdS (s.1, s.2.1, s.2.2.1, s.2.2.2.1, s.2.2.2.2.1, s.2.2.2.2.2.1, k, h) (mset seen cFil true) n1 w1 L (done.length + 1))).run := by
  have hi : done.length < L.length := by rw [hL]; simp
  have hget : L[done.length] = (num, lws (filP k h)) := by subst hL; simp
  have hk : nums 1 0 (B (Wx k) :: [h].map fun k => B (Tx k)) = some [k, h] := nums_Wx h0 h1 [h] (by intro x hx; simp at hx; subst hx; exact h2)
  have st := code_filter s seen n0 w0 L done.length hi hn num _ hget _ _ hk hse
  refine ⟨num, lws (filP k h), ?_⟩
  have st' : (parse_Parse.t0 (rdS s seen n0 w0 L done.length)).run = some (.normal, rdS (s.1, s.2.1, s.2.2.1, s.2.2.2.1, s.2.2.2.2.1, s.2.2.2.2.2.1, k, h) (mset seen cFil true) num (lws (filP k h)) L (done.length + 1)) := st
  rw [iter_go st']
end Go.Proofs.Pen

namespace Go.Proofs.Pen
open Go Go.Proofs

theorem tail_read (s : ScT) (seen : List (ByteArray × Bool)) (hse : flagM seen cCam = false) (hsf : flagM seen cFil = false) (done A5 R5 : List (Int × List ByteArray)) (L : List (Int × List ByteArray)) (n0 : Int) (w0 : List ByteArray) (m : Nat)
    (cs : List W3) (c : CamT) (k h : Int) (hL : L = done ++ (A5 ++ R5)) (hn : L.length ≤ 6001) (hcs : ∀ x ∈ cs, in3 x 0 67108863 = true) (hl : s.2.2.2.2.1.length + cs.length ≤ 6001)
    (a5 : A5.map (·.2) = cs.map (fun x => lws (celP x))) (hR : R5.map (·.2) = [lws (camP c), lws (filP k h)])
    (h1 : in3T c.1) (h2 : in3T c.2.1) (h3 : in3T c.2.2.1) (h4 : inT c.2.2.2.1) (h5 : inT c.2.2.2.2.1) (h6 : inT c.2.2.2.2.2) (k0 : 0 ≤ k) (k1 : k ≤ 1000000) (hh : inT h) :
    ∃ n1 w1 y, (iterT parse_Parse.t0 (cs.length + (m + 1 + 1 + 1)) (rdS s seen n0 w0 L done.length)).run =
      some (.exit 0, ZS, .nil, (s.1, s.2.1, s.2.2.1, s.2.2.2.1, s.2.2.2.2.1 ++ cs, c, k, h, mset (mset seen cCam true) cFil true, n1, w1, ()), y) := by
  obtain ⟨p, q, r⟩ := cels_read seen cs done (A5 ++ R5) L s n0 w0 (m + 1 + 1 + 1) hL hn hcs hl ⟨R5.map (·.2), by rw [List.map_append, a5]⟩
  have l5 : A5.length = cs.length := by have := congrArg List.length a5; simpa using this
  match R5, hR with
  | [(u1, v1), (u2, v2)], hR =>
    simp only [List.map_cons, List.map_nil, List.cons.injEq, and_true] at hR
    obtain ⟨rfl, rfl⟩ := hR
    obtain ⟨p2, q2, r2⟩ := cam_read (s.1, s.2.1, s.2.2.1, s.2.2.2.1, s.2.2.2.2.1 ++ cs, s.2.2.2.2.2) seen hse (done ++ A5) [(u2, lws (filP k h))] L p q (m + 1 + 1) u1 c (by rw [hL]; simp) hn h1 h2 h3 h4 h5 h6
    have d2 : (done ++ A5).length = done.length + cs.length := by simp [l5]
    rw [d2] at r2
    obtain ⟨p3, q3, r3⟩ := fil_read (s.1, s.2.1, s.2.2.1, s.2.2.2.1, s.2.2.2.2.1 ++ cs, c, s.2.2.2.2.2.2) (mset seen cCam true) (by rw [flag_other seen (show cCam ≠ cFil by decide)]; exact hsf) (done ++ A5 ++ [(u1, lws (camP c))]) [] L p2 q2 (m + 1) u2 k h (by rw [hL]; simp) hn k0 k1 hh
    have d3 : (done ++ A5 ++ [(u1, lws (camP c))]).length = done.length + cs.length + 1 := by simp [l5]; omega
    rw [d3] at r3
    have hend : L.length = done.length + cs.length + 1 + 1 := by rw [hL]; simp [l5]; omega
    refine ⟨p3, q3, (L, (L.length : Int), ((done.length + cs.length + 1 + 1 : Nat) : Int), ()), ?_⟩
    rw [r]
    refine r2.trans (r3.trans ?_)
    refine iter_stop (by simp) ?_
    unfold parse_Parse.t0 rdS
    dsimp only
    rw [tr_no (decide_eq_false (by rw [hend]; omega)), tr_ret]
    simp only [List.take_length]
end Go.Proofs.Pen

namespace Go.Proofs.Pen
open Go Go.Proofs

theorem all_read (s : ScT) (hs : okS s) (hl : s.1.length ≤ 40 ∧ s.2.1.length ≤ 60 ∧ s.2.2.1.length ≤ 60 ∧ s.2.2.2.2.1.length ≤ 200) (L : List (Int × List ByteArray)) (hL : L.map (·.2) = (PL s).map lws) :
    ∃ seen n1 w1, flagM seen cCam = true ∧ ∃ y, (iterT parse_Parse.t0 rounds (rdS S0 [] 0 [] L 0)).run =
      some (.exit 0, ZS, .nil, (s.1, s.2.1, s.2.2.1, s.2.2.2.1, s.2.2.2.2.1, s.2.2.2.2.2.1, s.2.2.2.2.2.2.1, s.2.2.2.2.2.2.2, seen, n1, w1, ()), y) := by
  obtain ⟨hb, hm, ht, hli, _, hz, hc, hca⟩ := hs
  obtain ⟨⟨c1, c2, c3, c4, c5, c6⟩, hk, hh0, hh1⟩ := camG_in hca
  have hb := (bigB_false.1 hb)
  obtain ⟨x1, x2, x3, x4⟩ := hl
  have hP : (PL s).map lws = s.1.map (fun x => lws (matP x)) ++ (s.2.1.map (fun x => lws (triP x)) ++ (s.2.2.1.map (fun x => lws (litP x)) ++ ((skyP s.2.2.2.1).map lws ++ (s.2.2.2.2.1.map (fun x => lws (celP x)) ++ [lws (camP s.2.2.2.2.2.1), lws (filP s.2.2.2.2.2.2.1 s.2.2.2.2.2.2.2)])))) := by
    simp [PL, Function.comp_def]
  rw [hP] at hL
  obtain ⟨A1, R1, e1, a1, hL⟩ := List.map_eq_append_iff.1 hL
  obtain ⟨A2, R2, e2, a2, hL⟩ := List.map_eq_append_iff.1 hL
  obtain ⟨A3, R3, e3, a3, hL⟩ := List.map_eq_append_iff.1 hL
  obtain ⟨A4, R4, e4, a4, hL⟩ := List.map_eq_append_iff.1 hL
  obtain ⟨A5, R5, e5, a5, hL⟩ := List.map_eq_append_iff.1 hL
  have l1 : A1.length = s.1.length := by have := congrArg List.length a1; simpa using this
  have l2 : A2.length = s.2.1.length := by have := congrArg List.length a2; simpa using this
  have l3 : A3.length = s.2.2.1.length := by have := congrArg List.length a3; simpa using this
  have l5 : A5.length = s.2.2.2.2.1.length := by have := congrArg List.length a5; simpa using this
  have l6 : R5.length = 2 := by have := congrArg List.length hL; simpa using this
  have l4 : A4.length ≤ 1 := by
    have := congrArg List.length a4
    rw [List.length_map, List.length_map] at this
    unfold skyP at this
    split at this <;> simp only [List.length_cons, List.length_nil] at this <;> omega
  have hn : L.length ≤ 6001 := by subst e1 e2 e3 e4 e5; simp; omega
  have hr : 1000 < rounds := rounds_gt (by decide)
  obtain ⟨m, hmr⟩ : ∃ m, rounds = s.1.length + (s.2.1.length + (s.2.2.1.length + (A4.length + (s.2.2.2.2.1.length + (m + 1 + 1 + 1))))) := ⟨rounds - (s.1.length + (s.2.1.length + (s.2.2.1.length + (A4.length + (s.2.2.2.2.1.length + 3))))), by omega⟩
  rw [hmr]
  obtain ⟨p1, q1, r1⟩ := mats_read [] s.1 [] L L S0 0 [] (s.2.1.length + (s.2.2.1.length + (A4.length + (s.2.2.2.2.1.length + (m + 1 + 1 + 1))))) rfl hn hm (by simp [S0]; omega) ⟨R1.map (·.2), by rw [e1, List.map_append, a1]⟩
  have r1 : (iterT parse_Parse.t0 _ (rdS S0 [] 0 [] L 0)).run = _ := r1
  rw [r1]
  obtain ⟨p2, q2, r2⟩ := tris_read [] s.2.1 A1 R1 L (S0.1 ++ s.1, S0.2) p1 q1 (s.2.2.1.length + (A4.length + (s.2.2.2.2.1.length + (m + 1 + 1 + 1)))) e1 hn ht (by omega) (by simp [S0]; omega) ⟨R2.map (·.2), by rw [e2, List.map_append, a2]⟩
  rw [l1] at r2
  rw [show ([] : List (Int × List ByteArray)).length + s.1.length = s.1.length by simp, r2]
  obtain ⟨p3, q3, r3⟩ := lits_read [] s.2.2.1 (A1 ++ A2) R2 L ((S0.1 ++ s.1, S0.2.1 ++ s.2.1, S0.2.2)) p2 q2 (A4.length + (s.2.2.2.2.1.length + (m + 1 + 1 + 1))) (by rw [e1, e2]; simp) hn hli (by omega) (by simp [S0]; omega) ⟨R3.map (·.2), by rw [e3, List.map_append, a3]⟩
  rw [show (A1 ++ A2).length = s.1.length + s.2.1.length by simp [l1, l2]] at r3
  rw [r3]
  by_cases h0 : 0 < s.2.2.2.1
  · rw [skyP, if_pos h0] at a4
    obtain ⟨⟨u, v⟩, A4', eA, av, an⟩ := List.map_eq_cons_iff.1 a4
    have an := List.map_eq_nil_iff.1 an
    subst an
    have av : v = lws (sSky, [Wx s.2.2.2.1]) := av
    subst av
    subst eA
    · clear a4
      obtain ⟨p4, q4, r4⟩ := sky_read (S0.1 ++ s.1, S0.2.1 ++ s.2.1, S0.2.2.1 ++ s.2.2.1, S0.2.2.2) [] rfl (A1 ++ A2 ++ A3) R4 L p3 q3 (s.2.2.2.2.1.length + (m + 1 + 1 + 1)) u s.2.2.2.1 (by rw [e1, e2, e3, e4]; simp) hn (by omega) (by omega)
      have d4 : (A1 ++ A2 ++ A3).length = s.1.length + s.2.1.length + s.2.2.1.length := by simp [l1, l2, l3]; omega
      rw [d4] at r4
      obtain ⟨p5, q5, y, r5⟩ := tail_read (S0.1 ++ s.1, S0.2.1 ++ s.2.1, S0.2.2.1 ++ s.2.2.1, s.2.2.2.1, S0.2.2.2.2) (mset [] cSky true) (by decide) (by decide) (A1 ++ A2 ++ A3 ++ [(u, lws (sSky, [Wx s.2.2.2.1]))]) A5 R5 L p4 q4 m s.2.2.2.2.1 s.2.2.2.2.2.1 s.2.2.2.2.2.2.1 s.2.2.2.2.2.2.2 (by rw [e1, e2, e3, e4, e5]; simp) hn hc (by simp [S0]; omega) a5 hL c1 c2 c3 c4 c5 c6 (by omega) (by omega) ⟨by omega, by omega⟩
      have d5 : (A1 ++ A2 ++ A3 ++ [(u, lws (sSky, [Wx s.2.2.2.1]))]).length = s.1.length + s.2.1.length + s.2.2.1.length + 1 := by simp [l1, l2, l3]; omega
      rw [d5] at r5
      refine ⟨mset (mset (mset [] cSky true) cCam true) cFil true, p5, q5, ?_, y, ?_⟩
      rotate_left
      · rw [show [(u, lws (sSky, [Wx s.2.2.2.1]))].length + (s.2.2.2.2.1.length + (m + 1 + 1 + 1)) = (s.2.2.2.2.1.length + (m + 1 + 1 + 1)) + 1 by simp; omega]
        exact r4.trans r5
      · decide
  · rw [skyP, if_neg h0] at a4
    have an := List.map_eq_nil_iff.1 a4
    subst an
    have hz0 : s.2.2.2.1 = 0 := by omega
    obtain ⟨p5, q5, y, r5⟩ := tail_read (S0.1 ++ s.1, S0.2.1 ++ s.2.1, S0.2.2.1 ++ s.2.2.1, S0.2.2.2) [] (by decide) (by decide) (A1 ++ A2 ++ A3) A5 R5 L p3 q3 m s.2.2.2.2.1 s.2.2.2.2.2.1 s.2.2.2.2.2.2.1 s.2.2.2.2.2.2.2 (by rw [e1, e2, e3, e4, e5]; simp) hn hc (by simp [S0]; omega) a5 hL c1 c2 c3 c4 c5 c6 (by omega) (by omega) ⟨by omega, by omega⟩
    have d4 : (A1 ++ A2 ++ A3).length = s.1.length + s.2.1.length + s.2.2.1.length := by simp [l1, l2, l3]; omega
    rw [d4] at r5
    refine ⟨mset (mset [] cCam true) cFil true, p5, q5, by decide, y, ?_⟩
    rw [show ([] : List (Int × List ByteArray)).length + (s.2.2.2.2.1.length + (m + 1 + 1 + 1)) = s.2.2.2.2.1.length + (m + 1 + 1 + 1) by simp, hz0]
    exact r5
end Go.Proofs.Pen

namespace Go.Proofs.Pen
open Go Go.Proofs

theorem matP_len2 (m : MatT) : (jn (matP m)).length ≤ 170 := by
  have l1 := three_len m.1
  have l2 := three_len m.2.1
  have l3 := Tx_len m.2.2
  simp only [jn, matP, sMat, List.flatMap_append, List.length_append, List.flatMap_cons, List.flatMap_nil, List.length_cons, List.length_nil, List.append_nil]
  omega
theorem triP_len2 (m : TriT) : (jn (triP m)).length ≤ 225 := by
  have l1 := three_len m.1
  have l2 := three_len m.2.1
  have l3 := three_len m.2.2.1
  have l4 := Wx_len m.2.2.2
  simp only [jn, triP, sTri, List.flatMap_append, List.length_append, List.flatMap_cons, List.length_cons, List.length_nil]
  omega
theorem litP_len2 (m : LitT) : (jn (litP m)).length ≤ 90 := by
  have l1 := three_len m.2
  have l4 := Wx_len m.1
  simp only [jn, litP, sLight, List.length_append, List.flatMap_cons, List.length_cons, List.length_nil]
  omega
theorem celP_len2 (m : W3) : (jn (celP m)).length ≤ 75 := by
  have l1 := three_len m
  simp only [jn, celP, sCell, List.length_append, List.length_cons, List.length_nil]
  omega
theorem camP_len2 (c : CamT) : (jn (camP c)).length ≤ 290 := by
  have l1 := three_len c.1
  have l2 := three_len c.2.1
  have l3 := three_len c.2.2.1
  have l4 := Tx_len c.2.2.2.1
  have l5 := Tx_len c.2.2.2.2.1
  have l6 := Tx_len c.2.2.2.2.2
  simp only [jn, camP, sCam, List.flatMap_append, List.length_append, List.flatMap_cons, List.flatMap_nil, List.length_cons, List.length_nil, List.append_nil]
  omega
theorem map_len2 {α : Type} (f : α → LineT) (b : Nat) (h : ∀ a, (jn (f a)).length ≤ b) (l : List α) : (flat (l.map f)).length ≤ l.length * (b + 1) := by
  have := flatJ_len b (l.map f) (fun x hx => by obtain ⟨a, _, rfl⟩ := List.mem_map.1 hx; exact h a)
  rw [List.length_map] at this
  exact this
theorem sky_len (z : Int) : (flat (skyP z)).length ≤ 20 ∧ (skyP z).length ≤ 1 := by
  have := Wx_len z
  unfold skyP
  split
  · simp [flat, jn, sSky]; omega
  · simp [flat]
theorem fil_len (k h : Int) : (jn (filP k h)).length ≤ 45 := by
  have l1 := Wx_len k
  have l2 := Tx_len h
  simp only [jn, filP, sFil, List.length_append, List.flatMap_cons, List.flatMap_nil, List.length_cons, List.length_nil, List.append_nil]
  omega
theorem PL_len (s : ScT) (hb : bigB s = false) (hz : (s.2.2.2.2.1.length : Int) = 8 * s.2.2.2.1) (hl : s.1.length ≤ 40 ∧ s.2.1.length ≤ 60 ∧ s.2.2.1.length ≤ 60 ∧ s.2.2.2.2.1.length ≤ 200) : (flat (PL s)).length ≤ 40000 ∧ (PL s).length ≤ 400 := by
  have hb := bigB_false.1 hb
  have n1 := map_len2 matP 170 matP_len2 s.1
  have n2 := map_len2 triP 225 triP_len2 s.2.1
  have n3 := map_len2 litP 90 litP_len2 s.2.2.1
  have n4 := map_len2 celP 75 celP_len2 s.2.2.2.2.1
  have n5 := sky_len s.2.2.2.1
  have n6 := camP_len2 s.2.2.2.2.2.1
  have n7 := fil_len s.2.2.2.2.2.2.1 s.2.2.2.2.2.2.2
  unfold PL
  simp only [flat_app, List.length_append, List.length_map, List.length_cons, List.length_nil]
  have e : flat [camP s.2.2.2.2.2.1, filP s.2.2.2.2.2.2.1 s.2.2.2.2.2.2.2] = jn (camP s.2.2.2.2.2.1) ++ [10] ++ (jn (filP s.2.2.2.2.2.2.1 s.2.2.2.2.2.2.2) ++ [10]) := by simp [flat]
  rw [e]
  simp only [List.length_append, List.length_cons, List.length_nil]
  omega
end Go.Proofs.Pen

namespace Go.Proofs.Pen
open Go Go.Proofs

theorem read_back (s : ScT) (hs : okS s) (hl : s.1.length ≤ 40 ∧ s.2.1.length ≤ 60 ∧ s.2.2.1.length ≤ 60 ∧ s.2.2.2.2.1.length ≤ 200) (t : List UInt8) (ht : t.length ≤ 60000) (hw : lwd (sp t []) = (PL s).map lws) :
    parse_Parse (B t) = some (s, .nil) := by
  obtain ⟨seen, n1, w1, hf, y, hy⟩ := all_read s hs hl (ln (sp t []) 0) (by rw [ln_words, hw])
  have hb : lightB s := by obtain ⟨a, b, c, d⟩ := hl; exact ⟨by omega, by omega, by omega, by omega⟩
  have ho : wr s = none := wr_none.2 hs
  have hsz : (decide (((B t).size : Int) > 262144)) = false := by rw [B_size]; exact decide_eq_false (by omega)
  have e1 : parse_Parse (B t) = (parse_Parse.t (B t)).run := rfl
  have hy1 : parse_Parse.l0 (ZS, .nil, ([], [], [], 0, [], ((0, 0, 0), (0, 0, 0), (0, 0, 0), 0, 0, 0), 1, 512, [], 0, [], ()), ln (sp t []) 0, ((ln (sp t []) 0).length : Int), 0, ()) = _ := hy
  have hcode : ∀ z, (parse_Parse.t (B t)).run = z ↔ (T.ite (!flagM seen cCam) (T.opt (parse_bad 8) fun y => T.ret (ZS, y)) (T.opt (scene_Check s) fun y => T.ite y.isFault (T.ret (ZS, ErrD.fault y.faultC y.faultL y.faultE)) (T.ret (s, ErrD.nil)))).run = z := fun z => by
    unfold parse_Parse.t
    rw [tr_no hsz, tr_opt, Lines_eq t ht, Option.bind_some, tr_opt]
    show ((parse_Parse.l0 (ZS, _)).bind _ = _) ↔ _
    rw [hy1, Option.bind_some]
    dsimp only
    rw [tr_yes (b := exEq (Ex.exit 0) (Ex.exit 0)) rfl]
    simp only [List.take_length]
    exact Iff.rfl
  rw [e1]
  refine (hcode _).2 ?_
  rw [hf, tr_no (b := !true) rfl, tr_opt, Check_eq s hb, ho, Option.bind_some, tr_no (b := (mkErr none).isFault) rfl, tr_ret]

theorem moved_tot (l : List Int) : ∀ (r : List (List UInt8)) (k : Nat), (moved l r k).length ≤ tot r + 12 * r.length
  | [], _ => by simp [moved]
  | x :: r, k => by
    have h1 := moved_tot l r (k + 1)
    have h3 := mv_len (gv l k) x
    rw [moved, tot]
    simp only [List.length_append, List.length_cons]
    omega

theorem PL_short (s : ScT) : ∀ l ∈ PL s, (jn l).length ≤ 300 := by
  intro l hl
  simp only [PL, List.mem_append, List.mem_map, List.mem_cons, List.not_mem_nil, or_false] at hl
  rcases hl with ((((⟨m, _, rfl⟩ | ⟨m, _, rfl⟩) | ⟨m, _, rfl⟩) | hl) | ⟨m, _, rfl⟩) | rfl | rfl
  · have := matP_len2 m; omega
  · have := triP_len2 m; omega
  · have := litP_len2 m; omega
  · unfold skyP at hl
    split at hl
    · have e : l = (sSky, [Wx s.2.2.2.1]) := by simpa using hl
      subst e
      have := Wx_len s.2.2.2.1
      simp [jn, sSky]; omega
    · simp at hl
  · have := celP_len2 m; omega
  · have := camP_len2 s.2.2.2.2.2.1; omega
  · have := fil_len s.2.2.2.2.2.2.1 s.2.2.2.2.2.2.2; omega

theorem ParseMoved_law (s : ScT) (l : List Int) : (law24_ParseMoved.t (s, l)).run = some true := by
  unfold law24_ParseMoved.t
  dsimp only
  by_cases hl : s.1.length ≤ 40 ∧ s.2.1.length ≤ 60 ∧ s.2.2.1.length ≤ 60 ∧ s.2.2.2.2.1.length ≤ 200
  · have hb : lightB s := by obtain ⟨a, b, c, d⟩ := hl; exact ⟨by omega, by omega, by omega, by omega⟩
    obtain ⟨l1, l2, l3, l4⟩ := hl
    rw [tr_no (by rw [decide_eq_true (show ((s.1.length : Nat) : Int) ≤ 40 by omega), decide_eq_true (show ((s.2.1.length : Nat) : Int) ≤ 60 by omega), decide_eq_true (show ((s.2.2.1.length : Nat) : Int) ≤ 60 by omega), decide_eq_true (show ((s.2.2.2.2.1.length : Nat) : Int) ≤ 200 by omega)]; rfl), tr_opt, RCheck_eq s hb, Option.bind_some]
    cases ho : wr s with
    | some w =>
      have hw := wr_ok ho
      rw [tr_yes hw.go, tr_ret]
    | none =>
      have hs := wr_none.1 ho
      have hl : s.1.length ≤ 40 ∧ s.2.1.length ≤ 60 ∧ s.2.2.1.length ≤ 60 ∧ s.2.2.2.2.1.length ≤ 200 := ⟨l1, l2, l3, l4⟩
      obtain ⟨f1, f2⟩ := PL_len s hs.1 hs.2.2.2.2.2.1.2 hl
      have hg := PL_good s
      have hX := sp_flat (PL s) hg
      have hn : ((PL s).map jn ++ [[]]).length ≤ 401 := by simp; omega
      have htt : tot ((PL s).map jn ++ [[]]) ≤ 40001 := by rw [← hX, sp_tot]; simp; omega
      have hm := moved_tot l ((PL s).map jn ++ [[]]) 0
      have lp := mv_loop s l ((PL s).map jn ++ [[]]) (by omega) (fun x hx => by
        rcases List.mem_append.1 hx with hx | hx
        · obtain ⟨y, hy, rfl⟩ := List.mem_map.1 hx
          exact PL_short s y hy
        · have : x = [] := by simpa using hx
          subst this; simp) _ 0 rounds [] (Nat.zero_add _) (rounds_gt (by omega)) (by simp only [List.length_nil]; omega)
      rw [List.nil_append, List.drop_zero] at lp
      have lp : law24_ParseMoved.l0 (l, s, ((PL s).map jn ++ [[]]).map B, ByteArray.mk #[], (0 : Int), ()) = _ := lp
      rw [tr_no (by rfl), tr_opt, Print_eq s hs hl, Option.bind_some, tr_opt, refSplit_eq _ (by omega), hX, Option.bind_some, tr_opt, lp, Option.bind_some]
      dsimp only
      rw [tr_yes (b := exEq (Ex.exit 0) (Ex.exit 0)) rfl, tr_opt, read_back s hs hl _ (by omega) (lwd_moved l (PL s) 0 hg), Option.bind_some, tr_yes (b := ErrD.isNil .nil) rfl, tr_opt, Same_refl s hb, Option.bind_some, tr_ret]
  · rw [tr_yes, tr_ret]
    rw [Bool.not_eq_true']
    cases h : (decide ((s.1.length : Int) ≤ 40) && decide ((s.2.1.length : Int) ≤ 60) && decide ((s.2.2.1.length : Int) ≤ 60) && decide ((s.2.2.2.2.1.length : Int) ≤ 200)) with
    | false => rfl
    | true =>
      exfalso; apply hl
      simp only [Bool.and_eq_true, decide_eq_true_eq] at h
      obtain ⟨⟨⟨a, b⟩, c⟩, d⟩ := h
      exact ⟨by omega, by omega, by omega, by omega⟩

theorem ParseMoved_all (x : dens [TScn, (.sl (.int .u8))]) (_ : insAll [TScn, (.sl (.int .u8))] x) : (law24_ParseMoved.t x).run = some true := ParseMoved_law x.1 x.2
end Go.Proofs.Pen
