/- A part of the proof of 'shareDiffers_holds', for every input, without a condition. -/
import Derived.Test.YtiafiebalibkdaaSDfQz
namespace Go.Proofs.Ytiafiebalibkdaa.Pure
open Go.RowKit Go.Proofs.Ytiafiebalibkdaa.OAll Go.Proofs.YtiafiebalibkdaaW.PrintWords Go.Proofs.YtiafiebalibkdaaW.PrintLast
theorem ShareDiffers (l0 : List (List Int)) (l1_0 : List Int) (a1_1 : Int) (_ : l0.length ≤ maxLen) (_ : ∀ r ∈ l0, ∀ x ∈ r, (Lit.int .i64 x).wf = true) (_ : l1_0.length ≤ maxLen) (_ : ∀ x ∈ l1_0, (Lit.int .i64 x).wf = true) (_ : (Lit.int .i64 a1_1).wf = true) : ∃ k, trishawlaw08_ShareDiffers.f k l0 l1_0 a1_1 = some true :=
  (ShareDiffers_ev l0 l1_0 a1_1).ex
end Go.Proofs.Ytiafiebalibkdaa.Pure
