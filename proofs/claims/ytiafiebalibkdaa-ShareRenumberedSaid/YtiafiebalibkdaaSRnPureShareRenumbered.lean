/- A part of the proof of 'shareRenumbered_holds', for every input, without a condition. -/
import Derived.Test.YtiafiebalibkdaaSRnQ3
namespace Go.Proofs.Ytiafiebalibkdaa.Pure
open Go.RowKit Go.Proofs.Ytiafiebalibkdaa.OAll Go.Proofs.YtiafiebalibkdaaW.PrintWords Go.Proofs.YtiafiebalibkdaaW.PrintLast
theorem ShareRenumbered (l0 : List (List Int)) (a1 : Int) (a2 : Int) (_ : l0.length ≤ maxLen) (_ : ∀ r ∈ l0, ∀ x ∈ r, (Lit.int .i64 x).wf = true) (h1 : (Lit.int .u8 a1).wf = true) (h2 : (Lit.int .u8 a2).wf = true) : ∃ k, trishawlaw08_ShareRenumbered.f k l0 a1 a2 = some true :=
  (ShareRenumbered_ev l0 a1 a2 h1 h2).ex
end Go.Proofs.Ytiafiebalibkdaa.Pure
