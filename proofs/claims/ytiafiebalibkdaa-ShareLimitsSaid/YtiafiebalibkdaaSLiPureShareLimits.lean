/- A part of the proof of 'shareLimits_holds', for every input, without a condition. -/
import Derived.Test.YtiafiebalibkdaaSLiQ1
namespace Go.Proofs.Ytiafiebalibkdaa.Pure
open Go.RowKit Go.Proofs.Ytiafiebalibkdaa.OAll Go.Proofs.YtiafiebalibkdaaW.PrintWords Go.Proofs.YtiafiebalibkdaaW.PrintLast
theorem ShareLimits (l0 : List (List Int)) (a1 : Int) (l2_0 : List Int) (a2_1 : Int) (_ : l0.length ≤ maxLen) (_ : ∀ r ∈ l0, ∀ x ∈ r, (Lit.int .i64 x).wf = true) (w1 : (Lit.int .u8 a1).wf = true) (_ : l2_0.length ≤ maxLen) (_ : ∀ x ∈ l2_0, (Lit.int .i64 x).wf = true) (_ : (Lit.int .i64 a2_1).wf = true) : ∃ k, trishawlaw08_ShareLimits.f k l0 a1 l2_0 a2_1 = some true :=
  (ShareLimits_ev l0 a1 w1 l2_0 a2_1).ex
end Go.Proofs.Ytiafiebalibkdaa.Pure
