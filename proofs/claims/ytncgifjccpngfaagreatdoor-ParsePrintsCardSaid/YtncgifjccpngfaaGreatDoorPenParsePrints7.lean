/- A part of the proof that the law ParsePrints is true of every input: models of the functions that the law reaches, and what holds of them. -/
import Derived.Test.YtncgifjccpngfaaGreatDoorPenKit0
import Derived.Test.YtncgifjccpngfaaGreatDoorPenKit1
import Derived.Test.YtncgifjccpngfaaGreatDoorPenKit2
import Derived.Test.YtncgifjccpngfaaGreatDoorPenKit3
import Derived.Test.YtncgifjccpngfaaGreatDoorPenParsePrints4
import Derived.Test.YtncgifjccpngfaaGreatDoorPenParsePrints5
import Derived.Test.YtncgifjccpngfaaGreatDoorPenParsePrints6
namespace Go.Proofs.Pen
open Go Go.Proofs

def by8 (l : List UInt8) : List Int := l.map fun b => (b.toNat : Int)
theorem bytesOf_B (l : List UInt8) : bytesOf (B l) = by8 l := by simp [bytesOf, by8, B]
theorem by8_app (a b : List UInt8) : by8 (a ++ b) = by8 a ++ by8 b := by simp [by8]
theorem by8_len (a : List UInt8) : (by8 a).length = a.length := by simp [by8]
theorem take_by8 {c : Nat} {u : List UInt8} (h : c = u.length) : List.take c (by8 u) = by8 u := List.take_of_length_le (by rw [by8_len]; omega)
theorem ten : [(10 : Int)] = by8 [10] := rfl
theorem ofBytes_by8 (l : List UInt8) : ofBytes (by8 l) = B l := by
  unfold ofBytes by8 B
  rw [List.map_map]
  congr 2
  have : ((fun n : Int => UInt8.ofNat n.toNat) ∘ fun b : UInt8 => (b.toNat : Int)) = id := by
    funext b
    simp
  rw [this, List.map_id]
theorem go_yes {α : Type} {b : Bool} {x y : T α} {r : Option α} (h : b = true) (k : x.run = r) : (T.ite b x y).run = r := by rw [tr_yes h]; exact k
theorem go_no {α : Type} {b : Bool} {x y : T α} {r : Option α} (h : b = false) (k : y.run = r) : (T.ite b x y).run = r := by rw [tr_no h]; exact k
theorem go_opt {α ρ : Type} {o : Option ρ} {v : ρ} {f : ρ → T α} {r : Option α} (h : o = some v) (k : (f v).run = r) : (T.opt o f).run = r := by rw [tr_opt, h]; exact k
theorem roomP {n c : Nat} (h : n ≤ 1000000) (hc : c ≤ 100) : decide (n * c ≤ most) = true := by
  rw [decide_eq_true_eq]
  have : n * c ≤ 1000000 * 100 := Nat.mul_le_mul h hc
  unfold most; omega
theorem Tx_mul {k : Int} (h0 : 0 ≤ k) (h1 : k ≤ 1000000) : W (1024 * k) = 1024 * k ∧ Tx (1024 * k) = Wx k ∧ inT (1024 * k) := by
  refine ⟨W_id (by omega) (by omega), ?_, by omega, by omega⟩
  obtain ⟨n, rfl⟩ : ∃ n : Nat, k = n := ⟨k.toNat, by omega⟩
  unfold Tx Wx Nx
  have e1 : (1024 * (n : Int)).natAbs = 1024 * n := by omega
  have e2 : ¬ (1024 * (n : Int)) < 0 := by omega
  rw [e1]
  simp
  omega

def txt (l : List Int) : List UInt8 := l.flatMap fun a => 32 :: Tx a

theorem nums_run {α : Type} {n : Nat} {l : List Int} {k : Nat → List Int → T α} {r : Option α} (hl : ∀ a ∈ l, inT a) (hn : n = l.length) (hs : l.length ≤ 1000) : ∀ (m i c : Nat) (u : List UInt8), c = u.length → i + m = l.length → u.length + 23 * m ≤ 900000 →
    (k ((u ++ txt (l.drop i)).length + 1) (by8 (u ++ txt (l.drop i) ++ [10]))).run = r → (numsGo n l k m (i : Int) c (by8 u)).run = r
  | 0, i, c, u, hc, hi, hb, h => by
    have hi : l.length ≤ i := by omega
    rw [List.drop_of_length_le hi] at h
    unfold numsGo
    refine go_yes (roomP (by omega) (by decide)) ?_
    rw [take_by8 hc, ten, ← by8_app, hc]
    simpa [txt] using h
  | m + 1, i, c, u, hc, hi, hb, h => by
    have hlt : i < l.length := by omega
    have hm := hl _ (List.getElem_mem hlt)
    have ht := Tx_len l[i]
    have hW : W ((i : Int) + 1) = ((i + 1 : Nat) : Int) := by rw [W_id (by omega) (by omega)]; omega
    unfold numsGo
    refine go_yes (by rw [decide_eq_true (show (0 : Int) ≤ (i : Int) by omega), decide_eq_true (show (i : Int) < (n : Int) by omega)]; rfl) ?_
    refine go_opt (v := l[i]) (by rw [show 0 + (i : Int).toNat = i by omega]; exact List.getElem?_eq_getElem hlt) ?_
    refine go_opt (Text_eq hm.1 hm.2) ?_
    have e1 : bytesOf (ByteArray.mk #[32] ++ B (Tx l[i])) = by8 (32 :: Tx l[i]) := by
      rw [show ByteArray.mk #[32] = B [32] from rfl, B_app, bytesOf_B]; rfl
    refine go_no (big_no (by rw [B_size]; show 1 + _ ≤ _; omega)) ?_
    dsimp only
    rw [e1, take_by8 hc, ← by8_app, hW]
    refine go_yes (roomP (by rw [by8_len, List.length_cons]; omega) (by decide)) ?_
    refine nums_run hl hn hs m (i + 1) _ (u ++ 32 :: Tx l[i]) (by rw [by8_len, List.length_append, hc]) (by omega) (by rw [List.length_append, List.length_cons]; omega) ?_
    rw [List.drop_eq_getElem_cons hlt] at h
    have e2 : u ++ (32 :: Tx l[i]) ++ txt (l.drop (i + 1)) = u ++ txt (l[i] :: l.drop (i + 1)) := by simp only [txt, List.flatMap_cons, List.append_assoc, List.cons_append]
    rw [e2]
    exact h

theorem putT_run {α : Type} {wb : ByteArray} {w : List UInt8} {n m c : Nat} {l : List Int} {u : List UInt8} {k : Nat → List Int → T α} {r : Option α} (hw : wb = B w) (hw0 : w.length ≤ 100) (hl : ∀ a ∈ l, inT a) (hn : n = l.length) (hm : m = l.length) (hs : l.length ≤ 1000) (hc : c = u.length) (hu : u.length ≤ 500000)
    (h : (k ((u ++ w ++ txt l).length + 1) (by8 (u ++ w ++ txt l ++ [10]))).run = r) : (putT wb n l m c (by8 u) k).run = r := by
  unfold putT
  rw [hw, bytesOf_B, take_by8 hc, ← by8_app]
  refine go_yes (roomP (by rw [by8_len]; omega) (by decide)) ?_
  have := nums_run (k := k) (r := r) hl hn hs m 0 (c + (by8 w).length) (u ++ w) (by rw [by8_len, List.length_append, hc]) (by omega) (by rw [List.length_append]; omega)
  rw [List.drop_zero] at this
  exact this h

theorem pts_run {α : Type} {n : Nat} {P : List W3} {k : Nat → List Int → T α} {r : Option α} (hn : n = P.length) (hs : P.length ≤ 100) : ∀ (m i c : Nat) (l : List Int), c = l.length → i + m = P.length → l.length + 3 * m ≤ 400 →
    (k (l ++ (P.drop i).flatMap pp3).length (l ++ (P.drop i).flatMap pp3)).run = r → (ptsGo n P k m (i : Int) c l).run = r
  | 0, i, c, l, hc, hi, hb, h => by
    have hi : P.length ≤ i := by omega
    rw [List.drop_of_length_le hi] at h
    unfold ptsGo
    rw [hc]
    simpa using h
  | m + 1, i, c, l, hc, hi, hb, h => by
    have hlt : i < P.length := by omega
    have hW : W ((i : Int) + 1) = ((i + 1 : Nat) : Int) := by rw [W_id (by omega) (by omega)]; omega
    have h3 : (pp3 P[i]).length = 3 := rfl
    unfold ptsGo
    refine go_yes (by rw [decide_eq_true (show (0 : Int) ≤ (i : Int) by omega), decide_eq_true (show (i : Int) < (n : Int) by omega)]; rfl) ?_
    refine go_opt (v := P[i]) (by rw [show 0 + (i : Int).toNat = i by omega]; exact List.getElem?_eq_getElem hlt) ?_
    refine go_yes (roomP (by rw [h3]; omega) (by decide)) ?_
    rw [hW, List.take_of_length_le (by omega)]
    refine pts_run hn hs m (i + 1) _ (l ++ pp3 P[i]) (by rw [List.length_append, hc]) (by omega) (by rw [List.length_append, h3]; omega) ?_
    rw [List.drop_eq_getElem_cons hlt, List.flatMap_cons, ← List.append_assoc] at h
    exact h
theorem ptsT_run {α : Type} {n m : Nat} {p : W3} {P : List W3} {k : Nat → List Int → T α} {r : Option α} (hn : n = P.length + 1) (hm : m = P.length) (hs : P.length ≤ 50) (h : (k ((p :: P).flatMap pp3).length ((p :: P).flatMap pp3)).run = r) : (ptsT n (p :: P) m k).run = r := by
  unfold ptsT
  have h3 : (pp3 p).length = 3 := rfl
  refine go_yes (by rw [decide_eq_true (show (0 : Int) ≤ 0 by omega), decide_eq_true (show (0 : Int) < (n : Int) by omega)]; rfl) ?_
  refine go_opt (v := p) rfl ?_
  refine go_yes (roomP (by rw [h3]; omega) (by decide)) ?_
  exact pts_run (P := p :: P) (by rw [hn]; rfl) (by rw [List.length_cons]; omega) m 1 _ (pp3 p) rfl (by rw [hm, List.length_cons]; omega) (by rw [h3]; omega) h

def matIn (m : MatT) : Prop := inT m.1.1 ∧ inT m.1.2.1 ∧ inT m.1.2.2 ∧ inT m.2.1.1 ∧ inT m.2.1.2.1 ∧ inT m.2.1.2.2 ∧ inT m.2.2
def triIn (t : TriT) : Prop := (0 ≤ t.2.2.2 ∧ t.2.2.2 ≤ 1000000) ∧ inT t.1.1 ∧ inT t.1.2.1 ∧ inT t.1.2.2 ∧ inT t.2.1.1 ∧ inT t.2.1.2.1 ∧ inT t.2.1.2.2 ∧ inT t.2.2.1.1 ∧ inT t.2.2.1.2.1 ∧ inT t.2.2.1.2.2
def litIn (l : LitT) : Prop := (0 ≤ l.1 ∧ l.1 ≤ 1000000) ∧ inT l.2.1 ∧ inT l.2.2.1 ∧ inT l.2.2.2
def celIn (p : W3) : Prop := inT p.1 ∧ inT p.2.1 ∧ inT p.2.2

theorem row_ret {β : Type} {s : ScT} {L : List β} {n i : Int} {c : Nat} {v w : List UInt8} (hc : c = v.length) (e : v = w) : (T.ret (Ex.normal, s, (List.take c (by8 v), ()), L, n, i, ())).run = some (Ex.normal, s, (by8 w, ()), L, n, i, ()) := by
  rw [tr_ret, take_by8 hc, e]

theorem matP_put (s : ScT) (L : List MatT) (k : Nat) (hk : k < L.length) (hn : L.length ≤ 1000) (u : List UInt8) (hu : u.length ≤ 400000) (h : matIn L[k]) :
    (parse_Print.t0 (s, (by8 u, ()), L, (L.length : Int), (k : Int), ())).run = some (.normal, s, (by8 (u ++ (jn (matP L[k]) ++ [10])), ()), L, (L.length : Int), ((k + 1 : Nat) : Int), ()) := by
  have hW : W ((k : Int) + 1) = ((k + 1 : Nat) : Int) := by rw [W_id (by omega) (by omega)]; omega
  unfold parse_Print.t0
  dsimp only
  simp only [hW]
  refine go_yes (decide_eq_true (by omega)) (go_opt (lget_nat L hk) ?_)
  generalize L[k] = c at h ⊢
  obtain ⟨⟨c0, c1, c2⟩, ⟨c3, c4, c5⟩, c6⟩ := c
  obtain ⟨h0, h1, h2, h3, h4, h5, h6⟩ := h
  dsimp only
  refine ptsT_run rfl rfl (by simp) ?_
  refine go_yes (roomP (by show 7 ≤ 1000000; omega) (by decide)) ?_
  refine putT_run (w := sMat) rfl (by decide) (fun a ha => by
    have ha : a ∈ [c0, c1, c2, c3, c4, c5, c6] := ha
    simp only [List.mem_cons, List.not_mem_nil, or_false] at ha
    rcases ha with rfl | rfl | rfl | rfl | rfl | rfl | rfl <;> assumption) rfl rfl (by show 7 ≤ 1000; omega) (by8_len u) (by omega) ?_
  refine row_ret (by simp only [List.length_append, List.length_cons, List.length_nil]) ?_
  show u ++ sMat ++ txt [c0, c1, c2, c3, c4, c5, c6] ++ [10] = _
  simp [txt, jn, matP, tx3, sMat]

theorem triP_put (s : ScT) (L : List TriT) (k : Nat) (hk : k < L.length) (hn : L.length ≤ 1000) (u : List UInt8) (hu : u.length ≤ 400000) (h : triIn L[k]) :
    (parse_Print.t2 (s, (by8 u, ()), L, (L.length : Int), (k : Int), ())).run = some (.normal, s, (by8 (u ++ (jn (triP L[k]) ++ [10])), ()), L, (L.length : Int), ((k + 1 : Nat) : Int), ()) := by
  have hW : W ((k : Int) + 1) = ((k + 1 : Nat) : Int) := by rw [W_id (by omega) (by omega)]; omega
  unfold parse_Print.t2
  dsimp only
  simp only [hW]
  refine go_yes (decide_eq_true (by omega)) (go_opt (lget_nat L hk) ?_)
  generalize L[k] = c at h ⊢
  obtain ⟨⟨c1, c2, c3⟩, ⟨c4, c5, c6⟩, ⟨c7, c8, c9⟩, c0⟩ := c
  obtain ⟨h0, h1, h2, h3, h4, h5, h6, h7, h8, h9⟩ := h
  obtain ⟨hm1, hm2, h0⟩ := Tx_mul h0.1 h0.2
  dsimp only
  simp only [hm1]
  refine ptsT_run rfl rfl (by simp) ?_
  refine go_yes (roomP (by show 10 ≤ 1000000; omega) (by decide)) ?_
  refine putT_run (w := sTri) rfl (by decide) (fun a ha => by
    have ha : a ∈ [1024 * c0, c1, c2, c3, c4, c5, c6, c7, c8, c9] := ha
    simp only [List.mem_cons, List.not_mem_nil, or_false] at ha
    rcases ha with rfl | rfl | rfl | rfl | rfl | rfl | rfl | rfl | rfl | rfl <;> assumption) rfl rfl (by show 10 ≤ 1000; omega) (by8_len u) (by omega) ?_
  refine row_ret (by simp only [List.length_append, List.length_cons, List.length_nil]) ?_
  show u ++ sTri ++ txt [1024 * c0, c1, c2, c3, c4, c5, c6, c7, c8, c9] ++ [10] = _
  simp [txt, jn, triP, tx3, sTri, hm2]

theorem litP_put (s : ScT) (L : List LitT) (k : Nat) (hk : k < L.length) (hn : L.length ≤ 1000) (u : List UInt8) (hu : u.length ≤ 400000) (h : litIn L[k]) :
    (parse_Print.t4 (s, (by8 u, ()), L, (L.length : Int), (k : Int), ())).run = some (.normal, s, (by8 (u ++ (jn (litP L[k]) ++ [10])), ()), L, (L.length : Int), ((k + 1 : Nat) : Int), ()) := by
  have hW : W ((k : Int) + 1) = ((k + 1 : Nat) : Int) := by rw [W_id (by omega) (by omega)]; omega
  unfold parse_Print.t4
  dsimp only
  simp only [hW]
  refine go_yes (decide_eq_true (by omega)) (go_opt (lget_nat L hk) ?_)
  generalize L[k] = c at h ⊢
  obtain ⟨c0, c1, c2, c3⟩ := c
  obtain ⟨h0, h1, h2, h3⟩ := h
  obtain ⟨hm1, hm2, h0⟩ := Tx_mul h0.1 h0.2
  dsimp only
  simp only [hm1]
  refine ptsT_run rfl rfl (by simp) ?_
  refine go_yes (roomP (by show 4 ≤ 1000000; omega) (by decide)) ?_
  refine putT_run (w := sLight) rfl (by decide) (fun a ha => by
    have ha : a ∈ [1024 * c0, c1, c2, c3] := ha
    simp only [List.mem_cons, List.not_mem_nil, or_false] at ha
    rcases ha with rfl | rfl | rfl | rfl <;> assumption) rfl rfl (by show 4 ≤ 1000; omega) (by8_len u) (by omega) ?_
  refine row_ret (by simp only [List.length_append, List.length_cons, List.length_nil]) ?_
  show u ++ sLight ++ txt [1024 * c0, c1, c2, c3] ++ [10] = _
  simp [txt, jn, litP, tx3, sLight, hm2]

theorem celP_put (s : ScT) (L : List W3) (k : Nat) (hk : k < L.length) (hn : L.length ≤ 1000) (u : List UInt8) (hu : u.length ≤ 400000) (h : celIn L[k]) :
    (parse_Print.t6 (s, (by8 u, ()), L, (L.length : Int), (k : Int), ())).run = some (.normal, s, (by8 (u ++ (jn (celP L[k]) ++ [10])), ()), L, (L.length : Int), ((k + 1 : Nat) : Int), ()) := by
  have hW : W ((k : Int) + 1) = ((k + 1 : Nat) : Int) := by rw [W_id (by omega) (by omega)]; omega
  unfold parse_Print.t6
  dsimp only
  simp only [hW]
  refine go_yes (decide_eq_true (by omega)) (go_opt (lget_nat L hk) ?_)
  generalize L[k] = c at h ⊢
  obtain ⟨c0, c1, c2⟩ := c
  obtain ⟨h0, h1, h2⟩ := h
  refine ptsT_run rfl rfl (by simp) ?_
  refine putT_run (w := sCell) rfl (by decide) (fun a ha => by
    have ha : a ∈ [c0, c1, c2] := ha
    simp only [List.mem_cons, List.not_mem_nil, or_false] at ha
    rcases ha with rfl | rfl | rfl <;> assumption) rfl rfl (by show 3 ≤ 1000; omega) (by8_len u) (by omega) ?_
  refine row_ret (by simp only [List.length_append, List.length_cons, List.length_nil]) ?_
  show u ++ sCell ++ txt [c0, c1, c2] ++ [10] = _
  simp [txt, jn, celP, tx3, sCell]
end Go.Proofs.Pen

namespace Go.Proofs.Pen
open Go Go.Proofs

theorem put_loop {β : Type} {t : ScT × (List Int × Unit) × List β × Int × Int × Unit → T (Ex × ScT × (List Int × Unit) × List β × Int × Int × Unit)} (s : ScT) (L : List β) (g : β → LineT) {e : Ex} (he : e ≠ .normal)
    (hstop : ∀ u : List UInt8, (t (s, (by8 u, ()), L, (L.length : Int), (L.length : Int), ())).run = some (e, s, (by8 u, ()), L, (L.length : Int), (L.length : Int), ()))
    (hgo : ∀ (k : Nat) (hk : k < L.length) (u : List UInt8), u.length ≤ 400000 → (t (s, (by8 u, ()), L, (L.length : Int), (k : Int), ())).run = some (.normal, s, (by8 (u ++ (jn (g L[k]) ++ [10])), ()), L, (L.length : Int), ((k + 1 : Nat) : Int), ()))
    (hf : ∀ a, (jn (g a)).length ≤ 300) : ∀ (c k m : Nat) (u : List UInt8), k + c = L.length → c < m → u.length + 301 * c ≤ 400000 →
    (iterT t m (s, (by8 u, ()), L, (L.length : Int), (k : Int), ())).run = some (e, s, (by8 (u ++ flat ((L.drop k).map g)), ()), L, (L.length : Int), (L.length : Int), ())
  | _, _, 0, _, _, hm, _ => absurd hm (Nat.not_lt_zero _)
  | 0, k, m + 1, u, hk, _, _ => by
    have hk : k = L.length := by omega
    subst hk
    rw [iter_stop he (hstop u), List.drop_length]
    simp [flat]
  | c + 1, k, m + 1, u, hk, hm, hu => by
    have hlt : k < L.length := by omega
    have h1 := hgo k hlt u (by omega)
    have h2 := hf L[k]
    rw [iter_go h1, put_loop s L g he hstop hgo hf c (k + 1) m (u ++ (jn (g L[k]) ++ [10])) (by omega) (by omega) (by simp only [List.length_append, List.length_cons, List.length_nil]; omega), List.drop_eq_getElem_cons hlt]
    simp only [List.map_cons, flat, List.flatMap_cons, List.append_assoc]
theorem matP_all (s : ScT) (L : List MatT) (hn : L.length ≤ 300) (hL : ∀ a ∈ L, matIn a) (u : List UInt8) (hu : u.length ≤ 300000) :
    parse_Print.l0 (s, (by8 u, ()), L, (L.length : Int), (0 : Int), ()) = some (.exit 0, s, (by8 (u ++ flat (L.map matP)), ()), L, (L.length : Int), (L.length : Int), ()) := by
  have := put_loop (t := parse_Print.t0) s L matP (e := .exit 0) (by simp) (fun u => by
      unfold parse_Print.t0
      dsimp only
      rw [tr_no (by simp), tr_ret, List.take_length])
    (fun k hk u hu => matP_put s L k hk (by omega) u hu (hL _ (List.getElem_mem hk))) (fun a => by have := matP_len a; omega) L.length 0 rounds u (Nat.zero_add _) (rounds_gt (by omega)) (by omega)
  rw [List.drop_zero] at this
  exact this
theorem triP_all (s : ScT) (L : List TriT) (hn : L.length ≤ 300) (hL : ∀ a ∈ L, triIn a) (u : List UInt8) (hu : u.length ≤ 300000) :
    parse_Print.l2 (s, (by8 u, ()), L, (L.length : Int), (0 : Int), ()) = some (.exit 2, s, (by8 (u ++ flat (L.map triP)), ()), L, (L.length : Int), (L.length : Int), ()) := by
  have := put_loop (t := parse_Print.t2) s L triP (e := .exit 2) (by simp) (fun u => by
      unfold parse_Print.t2
      dsimp only
      rw [tr_no (by simp), tr_ret, List.take_length])
    (fun k hk u hu => triP_put s L k hk (by omega) u hu (hL _ (List.getElem_mem hk))) (fun a => by have := triP_len a; omega) L.length 0 rounds u (Nat.zero_add _) (rounds_gt (by omega)) (by omega)
  rw [List.drop_zero] at this
  exact this
theorem litP_all (s : ScT) (L : List LitT) (hn : L.length ≤ 300) (hL : ∀ a ∈ L, litIn a) (u : List UInt8) (hu : u.length ≤ 300000) :
    parse_Print.l4 (s, (by8 u, ()), L, (L.length : Int), (0 : Int), ()) = some (.exit 4, s, (by8 (u ++ flat (L.map litP)), ()), L, (L.length : Int), (L.length : Int), ()) := by
  have := put_loop (t := parse_Print.t4) s L litP (e := .exit 4) (by simp) (fun u => by
      unfold parse_Print.t4
      dsimp only
      rw [tr_no (by simp), tr_ret, List.take_length])
    (fun k hk u hu => litP_put s L k hk (by omega) u hu (hL _ (List.getElem_mem hk))) (fun a => by have := litP_len a; omega) L.length 0 rounds u (Nat.zero_add _) (rounds_gt (by omega)) (by omega)
  rw [List.drop_zero] at this
  exact this
theorem celP_all (s : ScT) (L : List W3) (hn : L.length ≤ 300) (hL : ∀ a ∈ L, celIn a) (u : List UInt8) (hu : u.length ≤ 300000) :
    parse_Print.l6 (s, (by8 u, ()), L, (L.length : Int), (0 : Int), ()) = some (.exit 6, s, (by8 (u ++ flat (L.map celP)), ()), L, (L.length : Int), (L.length : Int), ()) := by
  have := put_loop (t := parse_Print.t6) s L celP (e := .exit 6) (by simp) (fun u => by
      unfold parse_Print.t6
      dsimp only
      rw [tr_no (by simp), tr_ret, List.take_length])
    (fun k hk u hu => celP_put s L k hk (by omega) u hu (hL _ (List.getElem_mem hk))) (fun a => by have := celP_len a; omega) L.length 0 rounds u (Nat.zero_add _) (rounds_gt (by omega)) (by omega)
  rw [List.drop_zero] at this
  exact this


def camIn (c : CamT) : Prop := in3T c.1 ∧ in3T c.2.1 ∧ in3T c.2.2.1 ∧ inT c.2.2.2.1 ∧ inT c.2.2.2.2.1 ∧ inT c.2.2.2.2.2
theorem tl_run (s : ScT) (hc : camIn s.2.2.2.2.2.1) (hk0 : 0 ≤ s.2.2.2.2.2.2.1) (hk1 : s.2.2.2.2.2.2.1 ≤ 1000000) (hh : inT s.2.2.2.2.2.2.2) (u : List UInt8) (hu : u.length ≤ 400000) :
    (parse_Print.tl s (by8 u)).run = some (B (u ++ flat [camP s.2.2.2.2.2.1, filP s.2.2.2.2.2.2.1 s.2.2.2.2.2.2.2]), .nil) := by
  obtain ⟨hk, hm2, hk2⟩ := Tx_mul hk0 hk1
  unfold parse_Print.tl
  simp only [hk]
  generalize s.2.2.2.2.2.1 = c at hc ⊢
  generalize s.2.2.2.2.2.2.1 = k at hk hm2 hk2 ⊢
  generalize s.2.2.2.2.2.2.2 = h at hh ⊢
  obtain ⟨⟨c0, c1, c2⟩, ⟨c3, c4, c5⟩, ⟨c6, c7, c8⟩, c9, c10, c11⟩ := c
  obtain ⟨⟨h0, h1, h2⟩, ⟨h3, h4, h5⟩, ⟨h6, h7, h8⟩, h9, h10, h11⟩ := hc
  dsimp only
  refine ptsT_run rfl rfl (by simp) ?_
  refine go_yes (roomP (by show 12 ≤ 1000000; omega) (by decide)) ?_
  refine putT_run (w := sCam) rfl (by decide) (fun a ha => by
    have ha : a ∈ [c0, c1, c2, c3, c4, c5, c6, c7, c8, c9, c10, c11] := ha
    simp only [List.mem_cons, List.not_mem_nil, or_false] at ha
    rcases ha with rfl | rfl | rfl | rfl | rfl | rfl | rfl | rfl | rfl | rfl | rfl | rfl <;> assumption) rfl rfl (by show 12 ≤ 1000; omega) (by8_len u) (by omega) ?_
  have hl : (txt [c0, c1, c2, c3, c4, c5, c6, c7, c8, c9, c10, c11]).length ≤ 300 := by
    have e0 := Tx_len c0
    have e1 := Tx_len c1
    have e2 := Tx_len c2
    have e3 := Tx_len c3
    have e4 := Tx_len c4
    have e5 := Tx_len c5
    have e6 := Tx_len c6
    have e7 := Tx_len c7
    have e8 := Tx_len c8
    have e9 := Tx_len c9
    have e10 := Tx_len c10
    have e11 := Tx_len c11
    simp only [txt, List.flatMap_cons, List.flatMap_nil, List.length_append, List.length_cons, List.length_nil]
    omega
  show (putT _ 2 _ 2 ((u ++ sCam ++ txt [c0, c1, c2, c3, c4, c5, c6, c7, c8, c9, c10, c11]).length + 1) (by8 (u ++ sCam ++ txt [c0, c1, c2, c3, c4, c5, c6, c7, c8, c9, c10, c11] ++ [10])) _).run = _
  refine putT_run (w := sFil) rfl (by decide) (fun a ha => by
    simp only [List.mem_cons, List.not_mem_nil, or_false] at ha
    rcases ha with rfl | rfl <;> assumption) rfl rfl (by show 2 ≤ 1000; omega) (by simp only [List.length_append, List.length_cons, List.length_nil]) (by simp only [List.length_append, List.length_cons, List.length_nil, sCam]; omega) ?_
  rw [tr_ret, take_by8 (by simp only [List.length_append, List.length_cons, List.length_nil]), ofBytes_by8]
  simp [txt, flat, jn, camP, filP, tx3, sCam, sFil, hm2]

theorem pPrint_eq (s : ScT) (hs : okS s) (hl : s.1.length ≤ 40 ∧ s.2.1.length ≤ 60 ∧ s.2.2.1.length ≤ 60 ∧ s.2.2.2.2.1.length ≤ 200) : parse_Print s = some (B (flat (PL s)), .nil) := by
  have hb : lightB s := by obtain ⟨a, b, c, d⟩ := hl; exact ⟨by omega, by omega, by omega, by omega⟩
  have ho : wr s = none := wr_none.2 hs
  obtain ⟨hbig, hm, ht, hli, _, hz, hc, hca⟩ := hs
  obtain ⟨⟨c1, c2, c3, c4, c5, c6⟩, hk, hh0, hh1⟩ := camG_in hca
  have hbig := (bigB_false.1 hbig)
  obtain ⟨x1, x2, x3, x4⟩ := hl
  have n1 := map_len2 matP 170 matP_len2 s.1
  have n2 := map_len2 triP 225 triP_len2 s.2.1
  have n3 := map_len2 litP 90 litP_len2 s.2.2.1
  have n4 := map_len2 celP 75 celP_len2 s.2.2.2.2.1
  have l0 := matP_all s s.1 (by omega) (fun a ha => by obtain ⟨⟨a, b, c⟩, ⟨d, e, f⟩, g⟩ := matG_in (hm a ha); exact ⟨a, b, c, d, e, f, g⟩) [] (by simp)
  have l2 := triP_all s s.2.1 (by omega) (fun a ha => by
    have h0 := (ht a ha).1
    have h1 := (ht a ha).2.1
    obtain ⟨⟨a, b, c⟩, ⟨d, e, f⟩, g, h, i⟩ := triG_in (ht a ha); exact ⟨⟨by omega, by omega⟩, a, b, c, d, e, f, g, h, i⟩) (flat (s.1.map matP)) (by omega)
  have l4 := litP_all s s.2.2.1 (by omega) (fun a ha => by
    obtain ⟨h0, h1, h2⟩ := hli a ha
    obtain ⟨a, b, c⟩ := in3T_of h2 (by omega) (by omega)
    exact ⟨⟨by omega, by omega⟩, a, b, c⟩) (flat (s.1.map matP) ++ flat (s.2.1.map triP)) (by simp only [List.length_append]; omega)
  have hl6 := fun u (hu : u.length ≤ 300000) => celP_all s s.2.2.2.2.1 (by omega) (fun a ha => in3T_of (hc a ha) (by omega) (by omega)) u hu
  have htl := fun u (hu : u.length ≤ 400000) => tl_run s ⟨c1, c2, c3, c4, c5, c6⟩ (by omega) (by omega) ⟨by omega, by omega⟩ u hu
  have e1 : parse_Print s = (parse_Print.t s).run := rfl
  rw [e1]
  unfold parse_Print.t
  refine go_opt (Check_eq s hb) ?_
  rw [ho]
  refine go_no rfl (go_opt l0 ?_)
  dsimp only
  refine go_yes rfl ?_
  simp only [List.take_length, List.nil_append]
  refine go_opt l2 ?_
  dsimp only
  refine go_yes rfl ?_
  try simp only [List.take_length]
  refine go_opt l4 ?_
  dsimp only
  refine go_yes rfl ?_
  try simp only [List.take_length]
  by_cases hz0 : 0 < s.2.2.2.1
  · obtain ⟨hm1, hm2, h00⟩ := Tx_mul (k := s.2.2.2.1) (by omega) (by omega)
    have e14 := Tx_len (1024 * s.2.2.2.1)
    simp only [hm1]
    refine go_yes (decide_eq_true (by omega)) ?_
    refine putT_run (w := sSky) rfl (by decide) (fun a ha => by
      simp only [List.mem_cons, List.not_mem_nil, or_false] at ha
      rcases ha with rfl
      exact h00) rfl rfl (by show 1 ≤ 1000; omega) (by8_len _) (by simp only [List.length_append]; omega) ?_
    rw [take_by8 (by simp only [List.length_append, List.length_cons, List.length_nil])]
    refine go_opt (hl6 _ (by simp only [List.length_append, List.length_cons, List.length_nil, sSky, txt, List.flatMap_cons, List.flatMap_nil]; omega)) ?_
    dsimp only
    refine go_yes rfl ?_
    rw [htl _ (by simp only [List.length_append, List.length_cons, List.length_nil, sSky, txt, List.flatMap_cons, List.flatMap_nil]; omega)]
    simp only [PL, skyP, if_pos hz0, flat, jn, txt, sSky, hm2, List.flatMap_append, List.flatMap_cons, List.flatMap_nil, List.append_assoc, List.cons_append, List.nil_append, List.append_nil]
  · refine go_no (decide_eq_false (by omega)) ?_
    refine go_opt (hl6 _ (by simp only [List.length_append]; omega)) ?_
    dsimp only
    refine go_yes rfl ?_
    rw [htl _ (by simp only [List.length_append]; omega)]
    simp only [PL, skyP, if_neg hz0, flat, List.flatMap_append, List.flatMap_cons, List.flatMap_nil, List.append_assoc, List.cons_append, List.nil_append, List.append_nil]
end Go.Proofs.Pen

namespace Go.Proofs.Pen
open Go Go.Proofs

theorem B_list (l : List UInt8) : (B l).toList = l := by
  rw [ByteArray.toList_eq]; simp [B]
theorem lwd_flat (l : List LineT) (h : ∀ x ∈ l, lineG x) : lwd (sp (flat l) []) = l.map lws := by
  rw [sp_flat l h]
  have : ∀ l : List LineT, (∀ x ∈ l, lineG x) → lwd (l.map jn ++ [[]]) = l.map lws := fun l => by
    induction l with
    | nil => intro _; exact lwd_none ws_nil
    | cons x l ih =>
      intro h
      rw [List.map_cons, List.cons_append, lwd_line (ws_jn (h x (by simp))) (lws_pos x), ih (fun y hy => h y (by simp [hy]))]
      rfl
  exact this l h

theorem two_is (w : W3) (h2 : w.2.1 ≠ 0) : fault_Is (.fault w.1 0 (.fault w.2.1 w.2.2 .nil), w.2.1) = some true := by
  rw [Is_eq _ _ (by show 2 ≤ 1000; omega)]
  congr 1
  show (w.2.1 == w.1 || (w.2.1 == w.2.1 || false)) = true
  simp

theorem ParsePrints_law (s : ScT) : (law24_ParsePrints.t s).run = some true := by
  unfold law24_ParsePrints.t
  by_cases hl : s.1.length ≤ 40 ∧ s.2.1.length ≤ 60 ∧ s.2.2.1.length ≤ 60 ∧ s.2.2.2.2.1.length ≤ 200
  · have hb : lightB s := by obtain ⟨a, b, c, d⟩ := hl; exact ⟨by omega, by omega, by omega, by omega⟩
    obtain ⟨l1, l2, l3, l4⟩ := hl
    have hl : s.1.length ≤ 40 ∧ s.2.1.length ≤ 60 ∧ s.2.2.1.length ≤ 60 ∧ s.2.2.2.2.1.length ≤ 200 := ⟨l1, l2, l3, l4⟩
    rw [tr_no (by rw [decide_eq_true (show ((s.1.length : Nat) : Int) ≤ 40 by omega), decide_eq_true (show ((s.2.1.length : Nat) : Int) ≤ 60 by omega), decide_eq_true (show ((s.2.2.1.length : Nat) : Int) ≤ 60 by omega), decide_eq_true (show ((s.2.2.2.2.1.length : Nat) : Int) ≤ 200 by omega)]; rfl)]
    cases ho : wr s with
    | some w =>
      have hw := wr_ok ho
      have hp : parse_Print s = some (B [], mkErr (some w)) := by
        have e1 : parse_Print s = (parse_Print.t s).run := rfl
        rw [e1]
        unfold parse_Print.t
        refine go_opt (Check_eq s hb) ?_
        rw [ho]
        refine go_yes rfl ?_
        rw [tr_ret]; rfl
      refine go_opt hp ?_
      refine go_opt (RCheck_eq s hb) ?_
      rw [ho]
      refine go_yes hw.go ?_
      refine go_yes (by simp [mkErr, ErrD.isNil]; exact B_list []) ?_
      refine go_yes (by show (w.1 == w.1) = true; simp) ?_
      refine go_opt (two_is w hw.2) ?_
      refine go_yes rfl ?_
      refine go_opt (Line_two _ _ _) ?_
      rw [tr_ret]
      show some (w.2.2 == w.2.2) = some true
      simp
    | none =>
      have hs := wr_none.1 ho
      obtain ⟨f1, f2⟩ := PL_len s hs.1 hs.2.2.2.2.2.1.2 hl
      have hg := PL_good s
      refine go_opt (pPrint_eq s hs hl) ?_
      refine go_opt (RCheck_eq s hb) ?_
      rw [ho]
      refine go_no (by rfl) ?_
      refine go_opt (read_back s hs hl _ (by omega) (lwd_flat (PL s) hg)) ?_
      refine go_yes rfl ?_
      refine go_opt (Print_eq s hs hl) ?_
      refine go_yes (by simp [ErrD.isNil]) ?_
      refine go_opt (Same_refl s hb) ?_
      rw [tr_ret]
  · rw [tr_yes, tr_ret]
    rw [Bool.not_eq_true']
    cases h : (decide ((s.1.length : Int) ≤ 40) && decide ((s.2.1.length : Int) ≤ 60) && decide ((s.2.2.1.length : Int) ≤ 60) && decide ((s.2.2.2.2.1.length : Int) ≤ 200)) with
    | false => rfl
    | true =>
      exfalso; apply hl
      simp only [Bool.and_eq_true, decide_eq_true_eq] at h
      obtain ⟨⟨⟨a, b⟩, c⟩, d⟩ := h
      exact ⟨by omega, by omega, by omega, by omega⟩

theorem ParsePrints_all (x : dens [TScn]) (_ : insAll [TScn] x) : (law24_ParsePrints.t x).run = some true := ParsePrints_law x
end Go.Proofs.Pen
