/- A part of the proof that the law HitVisits is true of every input: an evaluator of the program and its proof. -/
import Derived.Test.YtncgifjccpngfaaGreatPenKit0
import Derived.Test.YtncgifjccpngfaaGreatPenKit1
import Derived.Test.YtncgifjccpngfaaGreatPenKit2
import Derived.Test.YtncgifjccpngfaaGreatPenKit3
import Derived.Test.YtncgifjccpngfaaGreatPenHitVisits4
import Derived.Test.YtncgifjccpngfaaGreatPenKit5
import Derived.Test.YtncgifjccpngfaaGreatPenHitVisits6
import Derived.Test.YtncgifjccpngfaaGreatPenHitVisits7
namespace Go.Proofs.Pen
open Go Go.Proofs

def entryNil (ps : List Ty) {ρ : Type} (out : ρ → AV) (f : dens ps → T ρ) : List AV → T AV
  | .nilp :: args => entry ps out f args
  | _ => .fail
def isNil1 : List AV → Bool
  | .nilp :: _ => true
  | _ => false
theorem entry_nil {P : Program} {F : Fns} {D : Nat → Bool} {S : Nat → Option (St → T (Ex × St))} (hm : P.follows .mixedOrders = true) (hF : QuietOK P F.quiet) (hD : DeepOK P F.deep) {g : FuncId} {fn : Func} (hfn : P.funcs[g]? = some fn) (hc : callable P g = true)
    (hS : ∀ c, fn.body = some c → SOK P 0 S c) {ps rs : List Ty} {t : dens ps → T (dens rs)} (hn : Nat.ble (ps.length + 1) fn.ntmps = true)
    (h : ∀ x, runT P F D S fn (.nilp :: encs ps x) (decR rs) = t x) : FnOK P g (entryNil ps (outR rs) t) := by
  intro args v hv
  refine ⟨hc, fun r w us hι hp hgl hl => ?_⟩
  unfold entryNil at hv
  split at hv
  · rename_i args'
    unfold entry at hv
    split at hv
    · rename_i x hx
      obtain ⟨y, h1, h2⟩ := run_bind hv
      have := run_ret h2; subst this
      rw [← h x] at h1
      obtain ⟨v, h3, h4⟩ := run_bind h1
      have hl2 : LRel r (.nilp :: encs ps x) us := by
        simp only [LRel] at hl ⊢
        obtain ⟨u, ws, e, k1, k2⟩ := hl
        exact ⟨u, ws, e, k1, decs_rel hx k2⟩
      refine (fn_sound hm hF hD hfn hS h3 (by rw [List.length_cons, encs_length]; exact Nat.le_of_ble_eq_true hn) r w us hι hp hgl hl2).mono ?_
      rintro e w' ⟨u, r', e1, k1, k2, k3, k4, k5, k6⟩
      exact ⟨u, r', e1, k1, k2, k3, k4, k5, decR_rel (run_optT h4) k6⟩
    · exact (run_fail hv).elim
  · exact (run_fail hv).elim
end Go.Proofs.Pen
