/- A part of the proof of 'shareScores_holds', for every input, without a condition. -/
import Derived.Test.YtiafiebalibkdaaSScQp
namespace Go.Proofs.Ytiafiebalibkdaa.Pure
open Go.RowKit Go.Proofs.Ytiafiebalibkdaa.OAll Go.Proofs.YtiafiebalibkdaaW.PrintWords Go.Proofs.YtiafiebalibkdaaW.PrintLast
theorem ShareScores (l0 l1 l2_0 : List Int) (a2_1 : Int) (_ : l0.length ≤ maxLen) (_ : l0.length * 8 ≤ 140737488351232) (_ : ∀ x ∈ l0, (Lit.int .i64 x).wf = true) (_ : l1.length ≤ maxLen) (_ : l1.length * 8 ≤ 140737488351232) (_ : ∀ x ∈ l1, (Lit.int .i64 x).wf = true) (_ : l2_0.length ≤ maxLen) (_ : ∀ x ∈ l2_0, (Lit.int .i64 x).wf = true) (_ : (Lit.int .i64 a2_1).wf = true) : ∃ k, trishawlaw08_ShareScores.f k l0 l1 l2_0 a2_1 = some true :=
  (ShareScores_ev l0 l1 l2_0 a2_1).ex
end Go.Proofs.Ytiafiebalibkdaa.Pure
