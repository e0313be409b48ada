/- A part of the proof of 'shareContent_holds', for every input, without a condition. -/
import Derived.Test.YtiafiebalibkdaaSCoQy
namespace Go.Proofs.Ytiafiebalibkdaa.Pure
open Go.RowKit Go.Proofs.Ytiafiebalibkdaa.OAll Go.Proofs.YtiafiebalibkdaaW.PrintWords Go.Proofs.YtiafiebalibkdaaW.PrintLast
theorem ShareContent (l0 : List (List Int)) (a1 : Int) (l2 l3_0 : List Int) (a3_1 : Int) (_ : l0.length ≤ maxLen) (_ : ∀ r ∈ l0, ∀ x ∈ r, (Lit.int .i64 x).wf = true) (w1 : (Lit.int .u8 a1).wf = true) (_ : l2.length ≤ maxLen) (_ : l2.length * 8 ≤ 140737488351232) (_ : ∀ x ∈ l2, (Lit.int .i64 x).wf = true) (_ : l3_0.length ≤ maxLen) (_ : ∀ x ∈ l3_0, (Lit.int .i64 x).wf = true) (_ : (Lit.int .i64 a3_1).wf = true) : ∃ k, trishawlaw08_ShareContent.f k l0 a1 l2 l3_0 a3_1 = some true :=
  (ShareContent_ev l0 a1 w1 l2 l3_0 a3_1).ex
end Go.Proofs.Ytiafiebalibkdaa.Pure
