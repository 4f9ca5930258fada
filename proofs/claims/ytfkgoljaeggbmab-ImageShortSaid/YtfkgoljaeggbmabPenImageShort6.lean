/- A part of the proof that the law ImageShort is true of every input: models of the functions that the law reaches, and what holds of them. -/
import Derived.Test.YtfkgoljaeggbmabPenKit0
import Derived.Test.YtfkgoljaeggbmabPenKit1
import Derived.Test.YtfkgoljaeggbmabPenKit2
import Derived.Test.YtfkgoljaeggbmabPenImageShort3
import Derived.Test.YtfkgoljaeggbmabPenKit4
import Derived.Test.YtfkgoljaeggbmabPenImageShort5
namespace Go.Proofs.Pen
open Go Go.Proofs

theorem tagged_iff (x : ByteArray) : tagged x = true ↔ (bytesOf x).take 4 = [80, 78, 66, 1] := by
  refine ⟨tag_bytes, fun h => ?_⟩
  have e : x.extract (Int.toNat 0) (Int.toNat 4) = ByteArray.mk #[80, 78, 66, 1] := by
    apply bytesOf_inj
    rw [bytesOf_extract]
    exact h
  unfold tagged
  rw [e]; exact beq_self_eq_true _

theorem head_same {x y : ByteArray} (h : (bytesOf x).take 12 = (bytesOf y).take 12) : hdW x = hdW y ∧ hdH x = hdH y ∧ tagged x = tagged y := by
  have e : ∀ s : ByteArray, ((bytesOf s).drop 4).take 4 = (((bytesOf s).take 12).drop 4).take 4 ∧ ((bytesOf s).drop 8).take 4 = (((bytesOf s).take 12).drop 8).take 4 ∧ (bytesOf s).take 4 = ((bytesOf s).take 12).take 4 := fun s => by
    refine ⟨?_, ?_, ?_⟩
    · rw [List.drop_take, List.take_take]; rfl
    · rw [List.drop_take, List.take_take]; rfl
    · rw [List.take_take]; rfl
  obtain ⟨a1, a2, a3⟩ := e x
  obtain ⟨b1, b2, b3⟩ := e y
  refine ⟨?_, ?_, ?_⟩
  · unfold hdW; rw [a1, b1, h]
  · unfold hdH; rw [a2, b2, h]
  · apply Bool.eq_iff_iff.2
    rw [tagged_iff, tagged_iff, a3, b3, h]

theorem xor_byte {b f : Int} (hb : 0 ≤ b ∧ b < 256) (hf : 0 ≤ f ∧ f < 256) : ∃ v, IntKind.u8.wrap (↑(BitVec.ofInt IntKind.u8.bits b ^^^ BitVec.ofInt IntKind.u8.bits f).toNat : Int) = v ∧ 0 ≤ v ∧ v < 256 ∧ (f = 0 → v = b) ∧ (v = b → f = 0) := by
  refine ⟨_, rfl, ?_⟩
  rw [u8_wrap]
  show 0 ≤ ((BitVec.ofInt 8 b ^^^ BitVec.ofInt 8 f).toNat : Int) % 256 ∧ ((BitVec.ofInt 8 b ^^^ BitVec.ofInt 8 f).toNat : Int) % 256 < 256 ∧ (f = 0 → ((BitVec.ofInt 8 b ^^^ BitVec.ofInt 8 f).toNat : Int) % 256 = b) ∧ (((BitVec.ofInt 8 b ^^^ BitVec.ofInt 8 f).toNat : Int) % 256 = b → f = 0)
  have tB : ((BitVec.ofInt 8 b).toNat : Int) = b := by rw [BitVec.toNat_ofInt]; omega
  have tF : ((BitVec.ofInt 8 f).toNat : Int) = f := by rw [BitVec.toNat_ofInt]; omega
  have tX := (BitVec.ofInt 8 b ^^^ BitVec.ofInt 8 f).isLt
  refine ⟨by omega, by omega, fun h => ?_, fun h => ?_⟩
  · subst h
    have e : BitVec.ofInt 8 b ^^^ BitVec.ofInt 8 0 = BitVec.ofInt 8 b := by
      rw [show BitVec.ofInt 8 0 = 0#8 from rfl, BitVec.xor_zero]
    rw [e]; omega
  · have e : BitVec.ofInt 8 b ^^^ BitVec.ofInt 8 f = BitVec.ofInt 8 b := by
      apply BitVec.eq_of_toNat_eq; omega
    have e2 : BitVec.ofInt 8 f = BitVec.ofInt 8 b ^^^ (BitVec.ofInt 8 b ^^^ BitVec.ofInt 8 f) := by
      rw [← BitVec.xor_assoc, BitVec.xor_self, BitVec.zero_xor]
    rw [e, BitVec.xor_self] at e2
    rw [e2] at tF
    simpa using tF.symm

/-- Cut short. -/
theorem dec_cut {w h : Int} {L : List (Option Nat)} {D : List Int} (hm : mayB w h L D = true) (k : Nat) (hk : k < 12 + 8 * L.length + 4 * D.length) : image_Decode ((ofBytes (picL w h L D)).extract 0 k) = some ((0, 0, [], []), 5) := by
  obtain ⟨⟨hc, b1, b2⟩, _, _⟩ := may_parts hm
  have hp := ok_size hc
  have a := hc
  obtain ⟨a1, a2, a3, a4, a5⟩ := a
  have hb : bytesOf ((ofBytes (picL w h L D)).extract 0 k) = (picL w h L D).take k := by rw [bytesOf_extract, bytesOf_ofB (bytes_pic _ _ _ _)]; rfl
  have hsz : ((ofBytes (picL w h L D)).extract 0 k).size = k := by rw [← bytesOf_len, hb, List.length_take, pic_len]; omega
  by_cases h12 : k < 12
  · exact dec_short (by omega)
  · obtain ⟨e1, e2, e3⟩ := head_same (x := (ofBytes (picL w h L D)).extract 0 k) (y := ofBytes (picL w h L D)) (by
      rw [hb, bytesOf_ofB (bytes_pic _ _ _ _), List.take_take, Nat.min_eq_left (by omega)])
    rw [pic_tag] at e3
    rw [dec_head (by omega) e3, e1, e2, pic_W h L D (by omega), pic_H w L D (by omega)]
    exact decA_less _ w h _ hc (by omega)

theorem dec_more {w h : Int} {L : List (Option Nat)} {D : List Int} (hm : mayB w h L D = true) (t : ByteArray) (ht : 0 < t.size) : image_Decode (ofBytes (picL w h L D) ++ t) = some ((0, 0, [], []), 6) := by
  obtain ⟨⟨hc, b1, b2⟩, _, _⟩ := may_parts hm
  have hp := ok_size hc
  have a := hc
  obtain ⟨a1, a2, a3, a4, a5⟩ := a
  have hb : bytesOf (ofBytes (picL w h L D) ++ t) = picL w h L D ++ bytesOf t := by
    rw [← bytesOf_ofB (bytes_pic w h L D), ← ofB_bytesOf t, ← ofB_append, bytesOf_ofB, bytesOf_ofB (bytes_of _), bytesOf_ofB (bytes_pic _ _ _ _)]
    exact bytes_app (bytes_of _) (bytes_of _)
  have hsz : (ofBytes (picL w h L D) ++ t).size = 12 + 8 * L.length + 4 * D.length + t.size := by rw [ByteArray.size_append, pic_size]
  obtain ⟨e1, e2, e3⟩ := head_same (x := ofBytes (picL w h L D) ++ t) (y := ofBytes (picL w h L D)) (by
      rw [hb, bytesOf_ofB (bytes_pic _ _ _ _), List.take_append_of_le_length (by rw [pic_len]; omega)])
  rw [pic_tag] at e3
  rw [dec_head (by omega) e3, e1, e2, pic_W h L D (by omega), pic_H w L D (by omega)]
  exact decA_more _ w h _ hc (by omega)

theorem imageShort_plain (x : PicT × Int × Int × Int) (hx : insAll [(.st (.pair TPic (.pair (.int .u16) (.pair (.int .u8) (.int .u8)))))] x) : (law29_ImageShort.t x).run = some true := by
  obtain ⟨⟨w, h, L, D⟩, cut, at', f⟩ := x
  obtain ⟨⟨hw, hh, ⟨_, _, hL⟩, _⟩, ⟨c0, c1⟩, ⟨p0, p1⟩, ⟨q0, q1⟩⟩ := hx
  have hL : ∀ o, o ∈ L → ∃ w, o = some w ∧ w < 18446744073709551616 := hL
  have c0 : 0 ≤ cut := c0
  have c1 : cut ≤ 65535 := c1
  have p0 : 0 ≤ at' := p0
  have p1 : at' ≤ 255 := p1
  have q0 : 0 ≤ f := q0
  have q1 : f ≤ 255 := q1
  unfold law29_ImageShort.t
  dsimp only
  rw [tr_ite]
  by_cases hsm : (L.length : Int) ≤ 200 ∧ (D.length : Int) ≤ 100
  · rw [decide_eq_true hsm.1, decide_eq_true hsm.2, if_neg (by simp), tr_opt]
    have m2 := ref_may w h L D (by omega) (by omega) hL
    rw [m2, Option.bind_some, tr_ite]
    cases hm : mayB w h L D with
    | false => rw [if_pos (by rfl), tr_ret]
    | true =>
      obtain ⟨⟨hc, b1, b2⟩, hv, hD⟩ := may_parts hm
      have hc' := hc
      obtain ⟨a1, a2, a3, a4, a5⟩ := hc'
      have hF : ∀ o, o ∈ L → ∃ w, o = some w ∧ w < 18446744073709551616 ∧ ford (fop .sub (some w) (some w)) (some 0) = some .eq := fun o ho => by
        obtain ⟨z, e, hz⟩ := hL o ho
        refine ⟨z, e, hz, ?_⟩
        have := hv o ho
        rw [e, vnum_eq hz] at this
        unfold rnum at this
        simpa using this
      have e2 := ref_ok (w := w) (h := h) ⟨by omega, by omega⟩ ⟨by omega, by omega⟩ hF hD (by omega) (by omega)
      have hsz := pic_size w h L D
      have hbo := bytesOf_ofB (bytes_pic w h L D)
      have hlen := pic_len w h L D
      rw [if_neg (by simp), tr_opt, e2, Option.bind_some]
      rw [W_id (n := cut) (by omega) (by omega), Int.tmod_eq_emod_of_nonneg c0, Int.tmod_eq_emod_of_nonneg p0]
      obtain ⟨k, hk⟩ := Int.eq_ofNat_of_zero_le (show 0 ≤ cut % ((ofBytes (picL w h L D)).size : Int) from Int.emod_nonneg _ (by omega))
      have hk2 : cut % ((ofBytes (picL w h L D)).size : Int) < ((ofBytes (picL w h L D)).size : Int) := Int.emod_lt_of_pos _ (by omega)
      rw [hk] at hk2 ⊢
      obtain ⟨j, hj⟩ := Int.eq_ofNat_of_zero_le (show 0 ≤ at' % 4 by omega)
      have hj4 : j < 4 := by omega
      rw [hj]
      have e0 : Int.toNat 0 = 0 := rfl
      rw [tr_ite, if_neg (by intro hz; have := eq_of_beq hz; omega), tr_ite, if_pos (by rw [decide_eq_true (by omega), decide_eq_true (by omega), decide_eq_true (by omega)]; rfl), tr_opt, Int.toNat_natCast, e0, dec_cut hm k (by omega), Option.bind_some, tr_ite, if_pos (by rw [decide_eq_true (by omega), decide_eq_true (by omega)]; rfl)]
      have hget : (bytesOf (ofBytes (picL w h L D)))[j]? = some (picL w h L D)[j] := by rw [hbo, List.getElem?_eq_getElem (by omega)]
      have hbd := bytes_pic w h L D _ (List.getElem_mem (l := picL w h L D) (n := j) (by omega))
      obtain ⟨v, hv, v0, v1, v2, v3⟩ := xor_byte (b := (picL w h L D)[j]) (f := f) hbd ⟨q0, by omega⟩
      rw [Int.toNat_natCast, Nat.zero_add, tr_opt, hget, Option.bind_some, tr_ite, if_pos (by rw [decide_eq_true (by omega), decide_eq_true (by omega)]; rfl), tr_opt, Option.bind_some, tr_opt, hv]
      have hbz : Bytes ((picL w h L D).set j v) := fun c hc => (List.mem_or_eq_of_mem_set hc).elim (bytes_pic _ _ _ _ c) (fun e => by rw [e]; exact ⟨v0, v1⟩)
      have hz : List.take (ofBytes (picL w h L D)).size ((bytesOf (ofBytes (picL w h L D))).set j v) = (picL w h L D).set j v := by
        rw [hbo]; exact List.take_of_length_le (by rw [List.length_set]; omega)
      have hmx : ¬ (((ofBytes (picL w h L D)).size + (ByteArray.mk #[(120 : UInt8)]).size : Nat) : Int) > IntKind.i64.max := by
        have e1 : (ByteArray.mk #[(120 : UInt8)]).size = 1 := rfl
        rw [e1, i64max]; omega
      rw [hz]
      have hmore := dec_more hm (ByteArray.mk #[(120 : UInt8)]) (by decide)
      by_cases hf : f = 0
      · have hs : (picL w h L D).set j v = picL w h L D := by rw [v2 hf]; exact List.set_getElem_self _
        rw [hs, dec_pic hm hL (by omega), Option.bind_some, tr_ite, decide_eq_false hmx, if_neg (by simp), tr_opt, hmore, Option.bind_some, tr_ret, hf]
        rfl
      · have ht : tagged (ofBytes ((picL w h L D).set j v)) = false := by
          apply Bool.eq_false_iff.2
          intro ht
          have h1 := (tagged_iff _).1 ht
          have h2 := (tagged_iff _).1 (pic_tag w h L D)
          rw [bytesOf_ofB hbz] at h1
          rw [hbo] at h2
          have h3 : ((picL w h L D).set j v)[j]? = (picL w h L D)[j]? := by
            rw [← List.getElem?_take_of_lt hj4, h1, ← h2, List.getElem?_take_of_lt hj4]
          rw [List.getElem?_set_self (by omega), List.getElem?_eq_getElem (by omega)] at h3
          exact hf (v3 (Option.some.inj h3))
        rw [dec_tag (by rw [ofB_size, List.length_set]; omega) ht, Option.bind_some, tr_ite, decide_eq_false hmx, if_neg (by simp), tr_opt, hmore, Option.bind_some, tr_ret]
        have hf2 : (f == 0) = false := by simpa using hf
        have hf3 : (f != 0) = true := by simpa using hf
        rw [hf2, hf3]
        rfl
  · rw [if_pos, tr_ret]
    by_cases h1 : (L.length : Int) ≤ 200
    · rw [decide_eq_true h1, decide_eq_false fun h2 => hsm ⟨h1, h2⟩]; rfl
    · rw [decide_eq_false h1]; rfl
end Go.Proofs.Pen
