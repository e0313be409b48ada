/- A part of the proof of 'shareEfficient_holds', for every input, without a condition. -/
import Derived.Test.YtiafiebalibkdaaSEfQp
namespace Go.Proofs.Ytiafiebalibkdaa.Pure
open Go.RowKit Go.Proofs.Ytiafiebalibkdaa.OAll Go.Proofs.YtiafiebalibkdaaW.PrintWords Go.Proofs.YtiafiebalibkdaaW.PrintLast
theorem ShareEfficient (l0 l1 l2_0 : List Int) (a2_1 : Int) (l3_0 : List Int) (a3_1 : Int) (_ : l0.length ≤ maxLen) (_ : l0.length * 8 ≤ 140737488351232) (_ : ∀ x ∈ l0, (Lit.int .i64 x).wf = true) (_ : l1.length ≤ maxLen) (_ : l1.length * 8 ≤ 140737488351232) (_ : ∀ x ∈ l1, (Lit.int .i64 x).wf = true) (_ : l2_0.length ≤ maxLen) (_ : ∀ x ∈ l2_0, (Lit.int .i64 x).wf = true) (_ : (Lit.int .i64 a2_1).wf = true) (_ : l3_0.length ≤ maxLen) (_ : ∀ x ∈ l3_0, (Lit.int .i64 x).wf = true) (_ : (Lit.int .i64 a3_1).wf = true) : ∃ k, trishawlaw08_ShareEfficient.f k l0 l1 l2_0 a2_1 l3_0 a3_1 = some true :=
  (ShareEfficient_ev l0 l1 l2_0 a2_1 l3_0 a3_1).ex
end Go.Proofs.Ytiafiebalibkdaa.Pure
