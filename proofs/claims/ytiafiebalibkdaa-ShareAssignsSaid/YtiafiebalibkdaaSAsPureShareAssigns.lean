/- A part of the proof of 'shareAssigns_holds', for every input, without a condition. -/
import Derived.Test.YtiafiebalibkdaaSAsQ2
namespace Go.Proofs.Ytiafiebalibkdaa.Pure
open Go.RowKit Go.Proofs.Ytiafiebalibkdaa.OAll Go.Proofs.YtiafiebalibkdaaW.PrintWords Go.Proofs.YtiafiebalibkdaaW.PrintLast
theorem ShareAssigns (l0 : List (List Int)) (_ : l0.length ≤ maxLen) (_ : ∀ r ∈ l0, ∀ x ∈ r, (Lit.int .i64 x).wf = true) : ∃ k, trishawlaw08_ShareAssigns.f k l0 = some true :=
  (ShareAssigns_ev l0).ex
end Go.Proofs.Ytiafiebalibkdaa.Pure
