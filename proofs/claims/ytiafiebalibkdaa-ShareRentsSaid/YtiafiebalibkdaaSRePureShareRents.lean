/- A part of the proof of 'shareRents_holds', for every input, without a condition. -/
import Derived.Test.YtiafiebalibkdaaSReQw
namespace Go.Proofs.Ytiafiebalibkdaa.Pure
open Go.RowKit Go.Proofs.Ytiafiebalibkdaa.OAll Go.Proofs.YtiafiebalibkdaaW.PrintWords Go.Proofs.YtiafiebalibkdaaW.PrintLast
theorem ShareRents (l0 : List (List Int)) (a1 : Int) (_ : l0.length ≤ maxLen) (_ : ∀ r ∈ l0, ∀ x ∈ r, (Lit.int .i64 x).wf = true) (_ : (Lit.int .i64 a1).wf = true) : ∃ k, trishawlaw08_ShareRents.f k l0 a1 = some true :=
  (ShareRents_ev l0 a1).ex
end Go.Proofs.Ytiafiebalibkdaa.Pure
