/- A part of the proof that the law LexLines is true of every input: an evaluator of the program and its proof. -/
import Derived.Test.YtdcdmooafepbiabDoorPenKit0
import Derived.Test.YtdcdmooafepbiabDoorPenKit1
import Derived.Test.YtdcdmooafepbiabDoorPenKit2
import Derived.Test.YtdcdmooafepbiabDoorPenKit3
import Derived.Test.YtdcdmooafepbiabDoorPenLexLines4
namespace Go.Proofs.Pen
open Go RowKit

/-! ### Callees whose results become data that nobody changes -/
theorem Sn_aside (U : List Nat) (own : List Blk) : Sn (aside U own) = Sn own := by
  funext i
  unfold Sn aside
  rw [List.length_map, List.length_zipIdx]

def frzCall (Z : List Nat) (f : Nat → List AV → List Blk → T (AV × List Blk)) (g : Nat) (args : List AV) (own : List Blk) : T (AV × List Blk) :=
  match inL Z g with
  | true => (f g args own).bind fun x => .ret (AV.frz (aside (hideQ x.1.ids x.2.length) x.2) 6 x.1, aside x.1.ids x.2)
  | false => f g args own

theorem frz_deep {P : Program} {f : Nat → List AV → List Blk → T (AV × List Blk)} (hf : DeepOK P f) (Z : List Nat) : DeepOK P (frzCall Z f) := by
  intro g args own v own' h
  unfold frzCall at h
  split at h
  · obtain ⟨⟨x, o⟩, h1, h2⟩ := run_bind h
    cases run_ret h2
    obtain ⟨hc, hk⟩ := hf g args own x o h1
    refine ⟨hc, fun w0 M r w us hR hl => (hk w0 M r w us hR hl).mono ?_⟩
    rintro e w' ⟨u, r', rfl, k1, k2, k3⟩
    obtain ⟨r2, q1, q2, q3⟩ := k2.freeze x.ids
    refine ⟨u, r2, rfl, k1.trans q1, ?_, q3 _ _ k3⟩
    rw [Sn_aside]
    exact q2
  · exact hf g args own v own' h

/-- As 'dpT'; what the functions of 'Z' give becomes data. -/
def dpZ (P : Program) (q : Nat → List AV → T AV) (X : Deeps) (Z : List Nat) (TB : DTab) (fuel : Nat) : Nat → Fns
  | 0 => { quiet := q, deep := tabD TB noDeep, fuel := fuel, frz := X.frz, frc := X.frc }
  | d + 1 => { quiet := q, deep := tabD TB (frzCall Z (dpCall P X (dpZ P q X Z TB fuel d))), fuel := fuel, frz := X.frz, frc := X.frc }

theorem dpZ_ok {P : Program} (hm : P.follows .mixedOrders = true) {q : Nat → List AV → T AV} (hq : QuietOK P q) {X : Deeps} (hX : LoopsOK P X.S) (Z : List Nat) {TB : DTab} (hT : TBOK P TB) (fuel : Nat) : ∀ d, QuietOK P (dpZ P q X Z TB fuel d).quiet ∧ DeepOK P (dpZ P q X Z TB fuel d).deep
  | 0 => ⟨hq, tabD_ok hT (deep_none P)⟩
  | d + 1 => by
    obtain ⟨hF, hD⟩ := dpZ_ok hm hq hX Z hT fuel d
    refine ⟨hq, tabD_ok hT (frz_deep ?_ Z)⟩
    intro g args own v own' h
    unfold dpCall at h
    split at h
    · split at h
      · rename_i fn hfn
        split at h
        · rename_i hc
          simp only [Bool.and_eq_true] at hc
          exact ⟨hc.1, fun w0 M r w us hR hl => body_sound (F := { dpZ P q X Z TB fuel d with ctrl := inL X.C g }) hm hF hD hfn (fun c hb => hX g fn c _ hfn hb) h hR hl (Nat.le_of_ble_eq_true hc.2)⟩
        · exact (run_fail h).elim
      · exact (run_fail h).elim
    · exact (run_fail h).elim
end Go.Proofs.Pen
